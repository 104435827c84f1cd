/- A part of the proof of the law that RowProgChecks shows: lemmas, and contracts of the calls that it reaches. -/
import Derived.Test.YtlhnkfheojlghaaDoorProg
import Derived.Below
import Derived.Deep.Draws
import Derived.Deep.AppendLies
import Derived.Maps.AppendAt
import Derived.OwnWalk
import Derived.Laws.BytesArg
import Derived.Laws.MakeOwn
import Derived.Laws.OwnMore
import Derived.Deep.OwnRows
import Derived.Tactics
import Derived.Lib.ConvBytes
import Derived.Laws.Slices
import Derived.WalkKit
import Derived.KernelRfl
import Derived.RowKit3
import Derived.Deep.LoopGhost
import Derived.Deep.QuietTactic
import Derived.BigQuiet
import Derived.WideLaws
import Derived.Deep.DeepCutAuto
import Derived.Deep.CutBlock
import Derived.Deep.RegionHeld3
import Derived.Laws.Rows
import Derived.Lib.AppendStr
import Derived.ArgAppend
import Derived.Laws.IdiomCopy
import Derived.OrdersHeld
import Derived.Laws.BitsLemmas
import Derived.RowKit
import Derived.Test.YtlhnkfheojlghaaDoorZPK0
import Derived.Test.YtlhnkfheojlghaaDoorZPK3
import Derived.Test.YtlhnkfheojlghaaDoorZPK1
import Derived.Shelf.Strings.BuilderK
import Derived.Test.YtlhnkfheojlghaaDoorZPK2
import Derived.ChangeArms
import Derived.OpenShut
import Derived.Lib.LaidTab
set_option linter.unusedVariables false
set_option linter.unusedSimpArgs false
section
namespace Go.Proofs.YtlhnkfheojlghaaDoor.Pr
open Go.RowKit Go.Proofs.YtlhnkfheojlghaaDoorW.PrintWords Go.Proofs.YtlhnkfheojlghaaDoorW.PrintLast Go.Proofs.YtlhnkfheojlghaaDoorW.PrintMore
structure Moved (F : Nat → Prop) (w w' : World) : Prop where
  os : w'.os = w.os
  tape : w'.tape = w.tape
  output : w'.output = w.output
  size : w.heap.size ≤ w'.heap.size
  block : ∀ k, k < w.heap.size → ¬ F k → w'.heap[k]? = w.heap[k]?
theorem Moved.refl (F : Nat → Prop) (w : World) : Moved F w w := ⟨rfl, rfl, rfl, Nat.le_refl _, fun _ _ _ => rfl⟩
theorem Moved.alloc {F : Nat → Prop} {w w' : World} (h : Moved F w w') (o : Obj) : Moved F w (w'.alloc o) :=
  ⟨h.os, h.tape, h.output, by have := h.size; simp; omega, fun k hk hF => (Below.heap_alloc w' o k (Nat.lt_of_lt_of_le hk h.size)).trans (h.block k hk hF)⟩
theorem Moved.setCell {F : Nat → Prop} {w w' : World} (h : Moved F w w') {a : Addr} (ha : F a.block ∨ w.heap.size ≤ a.block) (v : Value) : Moved F w (w'.setCell a v) :=
  ⟨h.os, h.tape, h.output, by have := h.size; simpa [World.setCell] using this, fun k hk hF => (Below.heap_setCell w' a v k (fun e => by subst e; exact ha.elim hF (fun h => by omega))).trans (h.block k hk hF)⟩
theorem Moved.trans {F G : Nat → Prop} {a b c : World} (h : Moved F a b) (k : Moved G b c) (hG : ∀ i, G i → F i ∨ a.heap.size ≤ i) : Moved F a c :=
  ⟨k.os.trans h.os, k.tape.trans h.tape, k.output.trans h.output, Nat.le_trans h.size k.size, fun i hi hF => (k.block i (Nat.lt_of_lt_of_le hi h.size) (fun hg => (hG i hg).elim hF (fun h => by omega))).trans (h.block i hi hF)⟩
theorem Moved.below {F : Nat → Prop} {w w' : World} {B : Nat} (h : Moved F w w') (hF : ∀ k, F k → B ≤ k) (hB : B ≤ w.heap.size) : Below B w w' :=
  ⟨h.os, h.tape, h.output, h.size, fun k hk => h.block k (by omega) (fun hf => by have := hF k hf; omega)⟩
theorem Moved.of_below {F : Nat → Prop} {w w' : World} (h : Below w.heap.size w w') : Moved F w w' := ⟨h.os, h.tape, h.output, h.size, fun k hk _ => h.block k hk⟩
theorem Moved.next {F : Nat → Prop} {a b c : World} (h : Moved F a b) (k : Below b.heap.size b c) : Moved F a c := h.trans (G := fun _ => False) (Moved.of_below k) (fun _ h => h.elim)
mutual
theorem chk_bound : ∀ (p : S27) (ab : Option (Int × Int)) (d m : Int), 0 ≤ m → 0 ≤ (chk p ab d m).1 ∧ ((chk p ab d m).2 = 0 → (chk p ab d m).1 ≤ 4096)
  | ⟨f0, f1, f2, f3, f4, f5⟩, ab, d, m, h => by
    rw [chk]
    split
    · exact ⟨by dsimp only; omega, fun h => by simp at h⟩
    · rename_i hl
      split
      · exact ⟨by dsimp only; omega, fun h => by simp at h⟩
      · split
        · refine chkL_bound f5 _ _ _ (by omega) ?_
          simp [longM] at hl
          omega
        · exact ⟨by dsimp only; omega, fun h => by simp at h⟩
theorem chkL_bound : ∀ (l : List S27) (ab : Int × Int) (d m : Int), 0 ≤ m → m ≤ 4096 → 0 ≤ (chkL l ab d m).1 ∧ ((chkL l ab d m).2 = 0 → (chkL l ab d m).1 ≤ 4096)
  | [], ab, d, m, h, h2 => by rw [chkL]; exact ⟨h, fun _ => h2⟩
  | p :: l, ab, d, m, h, h2 => by
    rw [chkL]
    have hb := chk_bound p (some ab) d m h
    split
    · rename_i h0
      exact chkL_bound l ab d _ hb.1 (hb.2 h0)
    · exact hb
end
theorem wordsL_mem : ∀ {l : List S27} {p : S27}, wordsL l = true → p ∈ l → wordsM p = true
  | [], _, _, h => by cases h
  | q :: l, p, h, hp => by
    rw [wordsL, Bool.and_eq_true] at h
    rcases List.mem_cons.1 hp with rfl | hp
    · exact h.1
    · exact wordsL_mem h.2 hp
theorem words_consts {p : S27} (h : wordsM p = true) : ∀ v ∈ p.f4, wordV v := by
  rw [wordsM_eq, Bool.and_eq_true] at h
  intro v hv
  have := List.all_eq_true.1 h.1 v hv
  rw [Bool.and_eq_true] at this
  exact ⟨of_decide_eq_true this.1, of_decide_eq_true this.2⟩
theorem words_protos {p : S27} (h : wordsM p = true) : wordsL p.f5 = true := by
  rw [wordsM_eq, Bool.and_eq_true] at h
  exact h.2
theorem sizeOf_mem {p q : S27} (h : q ∈ p.f5) : SizeOf.sizeOf q < SizeOf.sizeOf p := by
  have h1 := List.sizeOf_lt_of_mem h
  obtain ⟨f0, f1, f2, f3, f4, f5⟩ := p
  simp at h1 ⊢
  omega
theorem all_drop {α : Type} (f : α → Bool) (l : List α) (h : ∀ j (hj : j < l.length), f l[j] = true) : l.all f = true := by
  rw [List.all_eq_true]
  intro x hx
  obtain ⟨i, hi, rfl⟩ := List.mem_iff_getElem.1 hx
  exact h i hi
theorem all_not {α : Type} (f : α → Bool) (l : List α) (k : Nat) (hk : k < l.length) (h : f l[k] = false) : l.all f = false := by
  rw [List.all_eq_false]
  exact ⟨l[k], List.getElem_mem _, by rw [h]; simp⟩
theorem chkL_drop (l : List S27) (k : Nat) (hk : k < l.length) (ab : Int × Int) (d m : Int) : chkL (l.drop k) ab d m = if (chk l[k] (some ab) d m).2 = 0 then chkL (l.drop (k + 1)) ab d (chk l[k] (some ab) d m).1 else chk l[k] (some ab) d m := by
  rw [List.drop_eq_getElem_cons hk, chkL]
theorem lt_of_blk {w : World} {b : Nat} {o : Obj} (h : w.heap[b]? = some o) : b < w.heap.size := (Array.getElem?_eq_some_iff.1 h).1
set_option maxRecDepth 100000 in
set_option maxHeartbeats 8000000 in
theorem function_calls (n : Nat) : ∀ (p : S27), SizeOf.sizeOf p ≤ n → ∀ (w0 w : World) (hb : Below w0.heap.size w0 w) (hG : OrdersLaid w0) (A2 : Option Addr) (c2 : Nat) (A3 : Option Addr) (c3 : Nat) (A4 : Option Addr) (c4 : Nat) (A5 : Option Addr) (c5 : Nat)
    (C2 : Kd.C k94 w0 A2 p.f2.length p.f2) (C3 : Kd.C k36 w0 A3 p.f3.length p.f3) (C4 : Kd.C k98 w0 A4 p.f4.length p.f4) (C5 : Kd.C k27 w0 A5 p.f5.length p.f5) (K2 : p.f2.length ≤ c2) (K3 : p.f3.length ≤ c3) (K4 : p.f4.length ≤ c4) (K5 : p.f5.length ≤ c5) (hw : wordsM p = true)
    (cb : Nat) (hcb : w0.heap.size ≤ cb) (ab : Option (Int × Int)) (v : Value) (deep many : Int) (hcell : w.heap[cb]? = some (.cells #[.int .i64 many] 75 (0, 0))) (ha : AboutIs w ab v) (hne : ∀ b, v = .pointer (some ⟨b, 0, none⟩) → b ≠ cb)
    (hd0 : 0 ≤ deep) (hd1 : deep ≤ 101) (hm0 : 0 ≤ many) (hm1 : many ≤ 4096),
    Calls Tryd.prog 42 #[.pointer (some ⟨cb, 0, none⟩), .agg #[.int .i64 p.f0, .int .i64 p.f1, .slice A2 p.f2.length c2, .slice A3 p.f3.length c3, .slice A4 p.f4.length c4, .slice A5 p.f5.length c5], v, .int .i64 deep] w fun e w' => e = .returned (.int .i64 (chk p ab deep many).2) ∧ Moved (fun k => k = cb) w w' ∧ w'.heap[cb]? = some (.cells #[.int .i64 (chk p ab deep many).1] 75 (0, 0)) := by
  induction n with
  | zero => intro p hp; exfalso; obtain ⟨f0, f1, f2, f3, f4, f5⟩ := p; simp at hp
  | succ n ih =>
  intro p hp w0 w hb hG A2 c2 A3 c3 A4 c4 A5 c5 C2 C3 C4 C5 K2 K3 K4 K5 hw cb hcb ab v deep many hcell ha hne hd0 hd1 hm0 hm1
  have hcw : cb < w.heap.size := (Array.getElem?_eq_some_iff.1 hcell).1
  have IH := Aside0.mk ih
  have HP := Aside0.mk hp
  have HB := Aside0.mk hb
  have HG := Aside0.mk hG
  have HC2 := Aside0.mk C2
  have HC3 := Aside0.mk C3
  have HC4 := Aside0.mk C4
  have HC5 := Aside0.mk C5
  have HW := Aside0.mk hw
  have HNE := Aside0.mk hne
  have HK2 := Aside0.mk K2
  have HK3 := Aside0.mk K3
  have HK4 := Aside0.mk K4
  have HK5 := Aside0.mk K5
  clear K2 K3 K4 K5
  have n2 : (p.f2.length : Int) ≤ 9223372036854775807 := by have := C2.2.1; omega
  have n3 : (p.f3.length : Int) ≤ 9223372036854775807 := by have := C3.2.1; omega
  have n4 : (p.f4.length : Int) ≤ 9223372036854775807 := by have := C4.2.1; omega
  have n5 : (p.f5.length : Int) ≤ 9223372036854775807 := by have := C5.2.1; omega
  have hwr : wrap64 (many + 1) = many + 1 := wrap_id (by omega) (by omega)
  have hwd : wrap64 (deep + 1) = deep + 1 := wrap_id (by omega) (by omega)
  have hc0 : (w.alloc (.cells #[.int .i64 p.f0, .int .i64 p.f1, .slice A2 p.f2.length c2, .slice A3 p.f3.length c3, .slice A4 p.f4.length c4, .slice A5 p.f5.length c5] 27)).cell? ⟨cb, 0, none⟩ = some (.int .i64 many) := row_at ((Below.heap_alloc w _ cb hcw).trans hcell) 0 _ rfl
  have hcf : (w.alloc (.cells #[.int .i64 p.f0, .int .i64 p.f1, .slice A2 p.f2.length c2, .slice A3 p.f3.length c3, .slice A4 p.f4.length c4, .slice A5 p.f5.length c5] 27)).frozen? ⟨cb, 0, none⟩ = false := blk_frozen ((Below.heap_alloc w _ cb hcw).trans hcell) 0
  have M2 : Aside0 (Moved (fun k => k = cb) w ((w.setCell ⟨cb, 0, none⟩ (.int .i64 (many + 1))).alloc (.cells #[.int .i64 p.f0, .int .i64 p.f1, .slice A2 p.f2.length c2, .slice A3 p.f3.length c3, .slice A4 p.f4.length c4, .slice A5 p.f5.length c5] 27))) := ⟨((Moved.refl (fun k => k = cb) w).setCell (a := ⟨cb, 0, none⟩) (Or.inl rfl) _).alloc _⟩
  have PB : Aside0 (((w.setCell ⟨cb, 0, none⟩ (.int .i64 (many + 1))).alloc (.cells #[.int .i64 p.f0, .int .i64 p.f1, .slice A2 p.f2.length c2, .slice A3 p.f3.length c3, .slice A4 p.f4.length c4, .slice A5 p.f5.length c5] 27)).heap[w.heap.size]? = some (.cells #[.int .i64 p.f0, .int .i64 p.f1, .slice A2 p.f2.length c2, .slice A3 p.f3.length c3, .slice A4 p.f4.length c4, .slice A5 p.f5.length c5] 27 (0, 0))) := ⟨by have h := heap_alloc_new (w.setCell ⟨cb, 0, none⟩ (.int .i64 (many + 1))) (.cells #[.int .i64 p.f0, .int .i64 p.f1, .slice A2 p.f2.length c2, .slice A3 p.f3.length c3, .slice A4 p.f4.length c4, .slice A5 p.f5.length c5] 27); rw [show (w.setCell ⟨cb, 0, none⟩ (.int .i64 (many + 1))).heap.size = w.heap.size by simp [World.setCell]] at h; exact h⟩
  have CB : Aside0 (((w.setCell ⟨cb, 0, none⟩ (.int .i64 (many + 1))).alloc (.cells #[.int .i64 p.f0, .int .i64 p.f1, .slice A2 p.f2.length c2, .slice A3 p.f3.length c3, .slice A4 p.f4.length c4, .slice A5 p.f5.length c5] 27)).heap[cb]? = some (.cells #[.int .i64 (many + 1)] 75 (0, 0))) := ⟨(Below.heap_alloc _ _ cb (by simpa [World.setCell] using hcw)).trans (by rw [blk_set hcell 0 _]; rfl)⟩
  have r0 : ((w.setCell ⟨cb, 0, none⟩ (.int .i64 (many + 1))).alloc (.cells #[.int .i64 p.f0, .int .i64 p.f1, .slice A2 p.f2.length c2, .slice A3 p.f3.length c3, .slice A4 p.f4.length c4, .slice A5 p.f5.length c5] 27)).cell? ⟨w.heap.size, 0, none⟩ = some (.int .i64 p.f0) := row_at PB.out 0 _ rfl
  have r1 : ((w.setCell ⟨cb, 0, none⟩ (.int .i64 (many + 1))).alloc (.cells #[.int .i64 p.f0, .int .i64 p.f1, .slice A2 p.f2.length c2, .slice A3 p.f3.length c3, .slice A4 p.f4.length c4, .slice A5 p.f5.length c5] 27)).cell? ⟨w.heap.size, 1, none⟩ = some (.int .i64 p.f1) := row_at PB.out 1 _ rfl
  have r2 : ((w.setCell ⟨cb, 0, none⟩ (.int .i64 (many + 1))).alloc (.cells #[.int .i64 p.f0, .int .i64 p.f1, .slice A2 p.f2.length c2, .slice A3 p.f3.length c3, .slice A4 p.f4.length c4, .slice A5 p.f5.length c5] 27)).cell? ⟨w.heap.size, 2, none⟩ = some (.slice A2 p.f2.length c2) := row_at PB.out 2 _ rfl
  have r3 : ((w.setCell ⟨cb, 0, none⟩ (.int .i64 (many + 1))).alloc (.cells #[.int .i64 p.f0, .int .i64 p.f1, .slice A2 p.f2.length c2, .slice A3 p.f3.length c3, .slice A4 p.f4.length c4, .slice A5 p.f5.length c5] 27)).cell? ⟨w.heap.size, 3, none⟩ = some (.slice A3 p.f3.length c3) := row_at PB.out 3 _ rfl
  have r4 : ((w.setCell ⟨cb, 0, none⟩ (.int .i64 (many + 1))).alloc (.cells #[.int .i64 p.f0, .int .i64 p.f1, .slice A2 p.f2.length c2, .slice A3 p.f3.length c3, .slice A4 p.f4.length c4, .slice A5 p.f5.length c5] 27)).cell? ⟨w.heap.size, 4, none⟩ = some (.slice A4 p.f4.length c4) := row_at PB.out 4 _ rfl
  have r5 : ((w.setCell ⟨cb, 0, none⟩ (.int .i64 (many + 1))).alloc (.cells #[.int .i64 p.f0, .int .i64 p.f1, .slice A2 p.f2.length c2, .slice A3 p.f3.length c3, .slice A4 p.f4.length c4, .slice A5 p.f5.length c5] 27)).cell? ⟨w.heap.size, 5, none⟩ = some (.slice A5 p.f5.length c5) := row_at PB.out 5 _ rfl
  have rc : ((w.setCell ⟨cb, 0, none⟩ (.int .i64 (many + 1))).alloc (.cells #[.int .i64 p.f0, .int .i64 p.f1, .slice A2 p.f2.length c2, .slice A3 p.f3.length c3, .slice A4 p.f4.length c4, .slice A5 p.f5.length c5] 27)).cell? ⟨cb, 0, none⟩ = some (.int .i64 (many + 1)) := row_at CB.out 0 _ rfl
  have hA2 : Aside0 (AboutIs ((w.setCell ⟨cb, 0, none⟩ (.int .i64 (many + 1))).alloc (.cells #[.int .i64 p.f0, .int .i64 p.f1, .slice A2 p.f2.length c2, .slice A3 p.f3.length c3, .slice A4 p.f4.length c4, .slice A5 p.f5.length c5] 27)) ab v) := ⟨by
    cases ab with
    | none => exact ha
    | some x =>
      obtain ⟨r, u⟩ := x
      obtain ⟨b, A, m, c, h1, h2, h3, h4⟩ := ha
      have hb1 := World.block_lt_of_cell? w _ h2
      have hbb : ((w.setCell ⟨cb, 0, none⟩ (.int .i64 (many + 1))).alloc (.cells #[.int .i64 p.f0, .int .i64 p.f1, .slice A2 p.f2.length c2, .slice A3 p.f3.length c3, .slice A4 p.f4.length c4, .slice A5 p.f5.length c5] 27)).heap[b]? = w.heap[b]? := M2.out.block b hb1 (hne b h1)
      exact ⟨b, A, m, c, h1, (World.cell?_of_block (a := ⟨b, 1, none⟩) hbb).trans h2, (World.cell?_of_block (a := ⟨b, 2, none⟩) hbb).trans h3, h4⟩⟩
  have B2 : Aside0 (Below w0.heap.size w0 ((w.setCell ⟨cb, 0, none⟩ (.int .i64 (many + 1))).alloc (.cells #[.int .i64 p.f0, .int .i64 p.f1, .slice A2 p.f2.length c2, .slice A3 p.f3.length c3, .slice A4 p.f4.length c4, .slice A5 p.f5.length c5] 27))) := ⟨hb.trans (M2.out.below (fun k hk => by rw [hk]; exact hcb) hb.size)⟩
  have HCHK := Aside0.mk (chk_eq p ab deep many)
  have hcb0 := Aside0.mk hcb
  clear hb hG C2 C3 C4 C5 hw hcell ha hne ih hp hcb
  by_cases g0 : 131072 < (p.f3.length : Int)
  · have e0 : decide (131072 < (p.f3.length : Int)) = true := decide_eq_true g0
    have HR : Aside0 (chk p ab deep many = (many + 1, 2)) := ⟨by rw [HCHK.out, if_pos (by simp [longM, g0])]⟩
    rw [HR.out]
    go_enter Tryd.func42, Tryd.ntmps42
    go_wp2_with fail
    go_ret
    exact ⟨rfl, M2.out, CB.out⟩
  have e0 : decide (131072 < (p.f3.length : Int)) = false := decide_eq_false g0
  by_cases g1 : 131072 < (p.f4.length : Int)
  · have e1 : decide (131072 < (p.f4.length : Int)) = true := decide_eq_true g1
    have HR : Aside0 (chk p ab deep many = (many + 1, 2)) := ⟨by rw [HCHK.out, if_pos (by simp [longM, g1])]⟩
    rw [HR.out]
    go_enter Tryd.func42, Tryd.ntmps42
    go_wp2_with fail
    go_ret
    exact ⟨rfl, M2.out, CB.out⟩
  have e1 : decide (131072 < (p.f4.length : Int)) = false := decide_eq_false g1
  by_cases g2 : 4096 < p.f1
  · have e2 : decide (4096 < p.f1) = true := decide_eq_true g2
    have HR : Aside0 (chk p ab deep many = (many + 1, 2)) := ⟨by rw [HCHK.out, if_pos (by simp [longM, g2])]⟩
    rw [HR.out]
    go_enter Tryd.func42, Tryd.ntmps42
    go_wp2_with fail
    go_ret
    exact ⟨rfl, M2.out, CB.out⟩
  have e2 : decide (4096 < p.f1) = false := decide_eq_false g2
  by_cases g3 : 60 < (p.f2.length : Int)
  · have e3 : decide (60 < (p.f2.length : Int)) = true := decide_eq_true g3
    have HR : Aside0 (chk p ab deep many = (many + 1, 2)) := ⟨by rw [HCHK.out, if_pos (by simp [longM, g3])]⟩
    rw [HR.out]
    go_enter Tryd.func42, Tryd.ntmps42
    go_wp2_with fail
    go_ret
    exact ⟨rfl, M2.out, CB.out⟩
  have e3 : decide (60 < (p.f2.length : Int)) = false := decide_eq_false g3
  by_cases g4 : 100 < deep
  · have e4 : decide (100 < deep) = true := decide_eq_true g4
    have HR : Aside0 (chk p ab deep many = (many + 1, 2)) := ⟨by rw [HCHK.out, if_pos (by simp [longM, g4])]⟩
    rw [HR.out]
    go_enter Tryd.func42, Tryd.ntmps42
    go_wp2_with fail
    go_ret
    exact ⟨rfl, M2.out, CB.out⟩
  have e4 : decide (100 < deep) = false := decide_eq_false g4
  by_cases g5 : 4096 < many + 1
  · have e5 : decide (4096 < many + 1) = true := decide_eq_true g5
    have HR : Aside0 (chk p ab deep many = (many + 1, 2)) := ⟨by rw [HCHK.out, if_pos (by simp [longM, g5])]⟩
    rw [HR.out]
    go_enter Tryd.func42, Tryd.ntmps42
    go_wp2_with fail
    go_ret
    exact ⟨rfl, M2.out, CB.out⟩
  have e5 : decide (4096 < many + 1) = false := decide_eq_false g5
  have HCH2 : Aside0 (chk p ab deep many = if selfBad p ab = true then (many + 1, 1) else if p.f3.all (canM p) = true then chkL p.f5 (p.f1, (p.f2.length : Int)) (deep + 1) (many + 1) else (many + 1, 1)) := ⟨by rw [HCHK.out, if_neg (by simp [longM]; omega)]⟩
  clear HCHK
  by_cases f0 : p.f0 < 0
  · have d0 : decide (p.f0 < 0) = true := decide_eq_true f0
    have HR : Aside0 (chk p ab deep many = (many + 1, 1)) := ⟨by rw [HCH2.out, if_pos (by simp [selfBad, f0])]⟩
    rw [HR.out]
    go_enter Tryd.func42, Tryd.ntmps42
    go_wp2_with fail
    go_ret
    exact ⟨rfl, M2.out, CB.out⟩
  have d0 : decide (p.f0 < 0) = false := decide_eq_false f0
  by_cases f1 : 30 < p.f0
  · have d1 : decide (30 < p.f0) = true := decide_eq_true f1
    have HR : Aside0 (chk p ab deep many = (many + 1, 1)) := ⟨by rw [HCH2.out, if_pos (by simp [selfBad, f1])]⟩
    rw [HR.out]
    go_enter Tryd.func42, Tryd.ntmps42
    go_wp2_with fail
    go_ret
    exact ⟨rfl, M2.out, CB.out⟩
  have d1 : decide (30 < p.f0) = false := decide_eq_false f1
  by_cases f2 : p.f1 < p.f0
  · have d2 : decide (p.f1 < p.f0) = true := decide_eq_true f2
    have HR : Aside0 (chk p ab deep many = (many + 1, 1)) := ⟨by rw [HCH2.out, if_pos (by simp [selfBad, f2])]⟩
    rw [HR.out]
    go_enter Tryd.func42, Tryd.ntmps42
    go_wp2_with fail
    go_ret
    exact ⟨rfl, M2.out, CB.out⟩
  have d2 : decide (p.f1 < p.f0) = false := decide_eq_false f2
  cases hbad : p.f4.any badC with
  | true =>
    have HR : Aside0 (chk p ab deep many = (many + 1, 1)) := ⟨by rw [HCH2.out, if_pos (by simp [selfBad, hbad])]⟩
    rw [HR.out]
    have CC := Aside0.mk (containsV_calls w0 ((w.setCell ⟨cb, 0, none⟩ (.int .i64 (many + 1))).alloc (.cells #[.int .i64 p.f0, .int .i64 p.f1, .slice A2 p.f2.length c2, .slice A3 p.f3.length c3, .slice A4 p.f4.length c4, .slice A5 p.f5.length c5] 27)) B2.out A4 c4 p.f4 HC4.out badC 64 #[] (by intro args W; kernel_rfl) (fun x hx W _ => bad_calls x (words_consts HW.out x hx) W))
    rw [hbad] at CC
    go_enter Tryd.func42, Tryd.ntmps42
    go_wp2_with (go_at_call 63; refine (CC.out).mono ?_; rintro e w3 ⟨rfl, hb3⟩; have B3 := Aside0.mk hb3; have PB3 := Aside0.mk ((hb3.block w.heap.size (lt_of_blk PB.out)).trans PB.out); have CB3 := Aside0.mk ((hb3.block cb (lt_of_blk CB.out)).trans CB.out); clear hb3; have s0 : w3.cell? ⟨w.heap.size, 0, none⟩ = some (.int .i64 p.f0) := row_at PB3.out 0 _ rfl; have s1 : w3.cell? ⟨w.heap.size, 1, none⟩ = some (.int .i64 p.f1) := row_at PB3.out 1 _ rfl; have s2 : w3.cell? ⟨w.heap.size, 2, none⟩ = some (.slice A2 p.f2.length c2) := row_at PB3.out 2 _ rfl; have s3 : w3.cell? ⟨w.heap.size, 3, none⟩ = some (.slice A3 p.f3.length c3) := row_at PB3.out 3 _ rfl; have s4 : w3.cell? ⟨w.heap.size, 4, none⟩ = some (.slice A4 p.f4.length c4) := row_at PB3.out 4 _ rfl; have s5 : w3.cell? ⟨w.heap.size, 5, none⟩ = some (.slice A5 p.f5.length c5) := row_at PB3.out 5 _ rfl)
    go_ret
    exact ⟨rfl, M2.out.next B3.out, CB3.out⟩
  | false =>
    have CC := Aside0.mk (containsV_calls w0 ((w.setCell ⟨cb, 0, none⟩ (.int .i64 (many + 1))).alloc (.cells #[.int .i64 p.f0, .int .i64 p.f1, .slice A2 p.f2.length c2, .slice A3 p.f3.length c3, .slice A4 p.f4.length c4, .slice A5 p.f5.length c5] 27)) B2.out A4 c4 p.f4 HC4.out badC 64 #[] (by intro args W; kernel_rfl) (fun x hx W _ => bad_calls x (words_consts HW.out x hx) W))
    rw [hbad] at CC
    have EE := Aside0.mk (ends_f p.f0 p.f1 p.f2 p.f3 p.f4 p.f5 n3)
    cases hend : endsM p.f3 with
    | false =>
      have HR : Aside0 (chk p ab deep many = (many + 1, 1)) := ⟨by rw [HCH2.out, if_pos (by simp [selfBad, hend])]⟩
      rw [HR.out]
      rw [hend] at EE
      go_enter Tryd.func42, Tryd.ntmps42
      go_wp2_with (first | (go_at_call 63; refine (CC.out).mono ?_; rintro e w3 ⟨rfl, hb3⟩; have B3 := Aside0.mk hb3; have PB3 := Aside0.mk ((hb3.block w.heap.size (lt_of_blk PB.out)).trans PB.out); have CB3 := Aside0.mk ((hb3.block cb (lt_of_blk CB.out)).trans CB.out); clear hb3; have s0 : w3.cell? ⟨w.heap.size, 0, none⟩ = some (.int .i64 p.f0) := row_at PB3.out 0 _ rfl; have s1 : w3.cell? ⟨w.heap.size, 1, none⟩ = some (.int .i64 p.f1) := row_at PB3.out 1 _ rfl; have s2 : w3.cell? ⟨w.heap.size, 2, none⟩ = some (.slice A2 p.f2.length c2) := row_at PB3.out 2 _ rfl; have s3 : w3.cell? ⟨w.heap.size, 3, none⟩ = some (.slice A3 p.f3.length c3) := row_at PB3.out 3 _ rfl; have s4 : w3.cell? ⟨w.heap.size, 4, none⟩ = some (.slice A4 p.f4.length c4) := row_at PB3.out 4 _ rfl; have s5 : w3.cell? ⟨w.heap.size, 5, none⟩ = some (.slice A5 p.f5.length c5) := row_at PB3.out 5 _ rfl) | (go_at_call 66; refine (prog_ends.calls p.f0 p.f1 A2 c2 p.f2 A3 c3 p.f3 A4 c4 p.f4 A5 c5 p.f5 _ _ (Kd.C_below HC2.out (B2.out.trans (B3.out.mono B2.out.size))) HK2.out (Kd.C_below HC3.out (B2.out.trans (B3.out.mono B2.out.size))) HK3.out (Kd.C_below HC4.out (B2.out.trans (B3.out.mono B2.out.size))) HK4.out (Kd.C_below HC5.out (B2.out.trans (B3.out.mono B2.out.size))) HK5.out EE.out).mono ?_; rintro e w4 ⟨rfl, hb4⟩; have B4 := Aside0.mk hb4; have PB4 := Aside0.mk ((hb4.block w.heap.size (lt_of_blk PB3.out)).trans PB3.out); have CB4 := Aside0.mk ((hb4.block cb (lt_of_blk CB3.out)).trans CB3.out); clear hb4; have t0 : w4.cell? ⟨w.heap.size, 0, none⟩ = some (.int .i64 p.f0) := row_at PB4.out 0 _ rfl; have t1 : w4.cell? ⟨w.heap.size, 1, none⟩ = some (.int .i64 p.f1) := row_at PB4.out 1 _ rfl; have t2 : w4.cell? ⟨w.heap.size, 2, none⟩ = some (.slice A2 p.f2.length c2) := row_at PB4.out 2 _ rfl; have t3 : w4.cell? ⟨w.heap.size, 3, none⟩ = some (.slice A3 p.f3.length c3) := row_at PB4.out 3 _ rfl; have t4 : w4.cell? ⟨w.heap.size, 4, none⟩ = some (.slice A4 p.f4.length c4) := row_at PB4.out 4 _ rfl; have t5 : w4.cell? ⟨w.heap.size, 5, none⟩ = some (.slice A5 p.f5.length c5) := row_at PB4.out 5 _ rfl))
      go_ret
      exact ⟨rfl, (M2.out.next B3.out).next B4.out, CB4.out⟩
    | true =>
      rw [hend] at EE
      cases hups : upsM p.f2 ab with
      | false =>
        have HR : Aside0 (chk p ab deep many = (many + 1, 1)) := ⟨by rw [HCH2.out, if_pos (by simp [selfBad, hups])]⟩
        rw [HR.out]
        go_enter Tryd.func42, Tryd.ntmps42
        go_wp2_with (first | (go_at_call 63; refine (CC.out).mono ?_; rintro e w3 ⟨rfl, hb3⟩; have B3 := Aside0.mk hb3; have PB3 := Aside0.mk ((hb3.block w.heap.size (lt_of_blk PB.out)).trans PB.out); have CB3 := Aside0.mk ((hb3.block cb (lt_of_blk CB.out)).trans CB.out); clear hb3; have s0 : w3.cell? ⟨w.heap.size, 0, none⟩ = some (.int .i64 p.f0) := row_at PB3.out 0 _ rfl; have s1 : w3.cell? ⟨w.heap.size, 1, none⟩ = some (.int .i64 p.f1) := row_at PB3.out 1 _ rfl; have s2 : w3.cell? ⟨w.heap.size, 2, none⟩ = some (.slice A2 p.f2.length c2) := row_at PB3.out 2 _ rfl; have s3 : w3.cell? ⟨w.heap.size, 3, none⟩ = some (.slice A3 p.f3.length c3) := row_at PB3.out 3 _ rfl; have s4 : w3.cell? ⟨w.heap.size, 4, none⟩ = some (.slice A4 p.f4.length c4) := row_at PB3.out 4 _ rfl; have s5 : w3.cell? ⟨w.heap.size, 5, none⟩ = some (.slice A5 p.f5.length c5) := row_at PB3.out 5 _ rfl) | (go_at_call 66; refine (prog_ends.calls p.f0 p.f1 A2 c2 p.f2 A3 c3 p.f3 A4 c4 p.f4 A5 c5 p.f5 _ _ (Kd.C_below HC2.out (B2.out.trans (B3.out.mono B2.out.size))) HK2.out (Kd.C_below HC3.out (B2.out.trans (B3.out.mono B2.out.size))) HK3.out (Kd.C_below HC4.out (B2.out.trans (B3.out.mono B2.out.size))) HK4.out (Kd.C_below HC5.out (B2.out.trans (B3.out.mono B2.out.size))) HK5.out EE.out).mono ?_; rintro e w4 ⟨rfl, hb4⟩; have B4 := Aside0.mk hb4; have PB4 := Aside0.mk ((hb4.block w.heap.size (lt_of_blk PB3.out)).trans PB3.out); have CB4 := Aside0.mk ((hb4.block cb (lt_of_blk CB3.out)).trans CB3.out); clear hb4; have t0 : w4.cell? ⟨w.heap.size, 0, none⟩ = some (.int .i64 p.f0) := row_at PB4.out 0 _ rfl; have t1 : w4.cell? ⟨w.heap.size, 1, none⟩ = some (.int .i64 p.f1) := row_at PB4.out 1 _ rfl; have t2 : w4.cell? ⟨w.heap.size, 2, none⟩ = some (.slice A2 p.f2.length c2) := row_at PB4.out 2 _ rfl; have t3 : w4.cell? ⟨w.heap.size, 3, none⟩ = some (.slice A3 p.f3.length c3) := row_at PB4.out 3 _ rfl; have t4 : w4.cell? ⟨w.heap.size, 4, none⟩ = some (.slice A4 p.f4.length c4) := row_at PB4.out 4 _ rfl; have t5 : w4.cell? ⟨w.heap.size, 5, none⟩ = some (.slice A5 p.f5.length c5) := row_at PB4.out 5 _ rfl) | (go_at_call 67; have UU := (ups_calls w0 w4 (B2.out.trans ((B3.out.trans (B4.out.mono B3.out.size)).mono B2.out.size)) p.f0 p.f1 A2 c2 p.f2 HC2.out A3 p.f3.length c3 A4 p.f4.length c4 A5 p.f5.length c5 ab v ((hA2.out.below B3.out).below B4.out)); rw [hups] at UU; refine UU.mono ?_; clear UU; rintro e w5 ⟨rfl, hb5⟩; have B5 := Aside0.mk hb5; have PB5 := Aside0.mk ((hb5.block w.heap.size (lt_of_blk PB4.out)).trans PB4.out); have CB5 := Aside0.mk ((hb5.block cb (lt_of_blk CB4.out)).trans CB4.out); clear hb5; have y0 : w5.cell? ⟨w.heap.size, 0, none⟩ = some (.int .i64 p.f0) := row_at PB5.out 0 _ rfl; have y1 : w5.cell? ⟨w.heap.size, 1, none⟩ = some (.int .i64 p.f1) := row_at PB5.out 1 _ rfl; have y2 : w5.cell? ⟨w.heap.size, 2, none⟩ = some (.slice A2 p.f2.length c2) := row_at PB5.out 2 _ rfl; have y3 : w5.cell? ⟨w.heap.size, 3, none⟩ = some (.slice A3 p.f3.length c3) := row_at PB5.out 3 _ rfl; have y4 : w5.cell? ⟨w.heap.size, 4, none⟩ = some (.slice A4 p.f4.length c4) := row_at PB5.out 4 _ rfl; have y5 : w5.cell? ⟨w.heap.size, 5, none⟩ = some (.slice A5 p.f5.length c5) := row_at PB5.out 5 _ rfl))
        go_ret
        exact ⟨rfl, ((M2.out.next B3.out).next B4.out).next B5.out, CB5.out⟩
      | true =>
        have HCH3 : Aside0 (chk p ab deep many = if p.f3.all (canM p) = true then chkL p.f5 (p.f1, (p.f2.length : Int)) (deep + 1) (many + 1) else (many + 1, 1)) := ⟨by rw [HCH2.out, if_neg (by simp [selfBad, hbad, hend, hups]; omega)]⟩
        clear HCH2
        go_enter Tryd.func42, Tryd.ntmps42
        go_wp2_with (first | (go_at_call 63; refine (CC.out).mono ?_; rintro e w3 ⟨rfl, hb3⟩; have B3 := Aside0.mk hb3; have PB3 := Aside0.mk ((hb3.block w.heap.size (lt_of_blk PB.out)).trans PB.out); have CB3 := Aside0.mk ((hb3.block cb (lt_of_blk CB.out)).trans CB.out); clear hb3; have s0 : w3.cell? ⟨w.heap.size, 0, none⟩ = some (.int .i64 p.f0) := row_at PB3.out 0 _ rfl; have s1 : w3.cell? ⟨w.heap.size, 1, none⟩ = some (.int .i64 p.f1) := row_at PB3.out 1 _ rfl; have s2 : w3.cell? ⟨w.heap.size, 2, none⟩ = some (.slice A2 p.f2.length c2) := row_at PB3.out 2 _ rfl; have s3 : w3.cell? ⟨w.heap.size, 3, none⟩ = some (.slice A3 p.f3.length c3) := row_at PB3.out 3 _ rfl; have s4 : w3.cell? ⟨w.heap.size, 4, none⟩ = some (.slice A4 p.f4.length c4) := row_at PB3.out 4 _ rfl; have s5 : w3.cell? ⟨w.heap.size, 5, none⟩ = some (.slice A5 p.f5.length c5) := row_at PB3.out 5 _ rfl) | (go_at_call 66; refine (prog_ends.calls p.f0 p.f1 A2 c2 p.f2 A3 c3 p.f3 A4 c4 p.f4 A5 c5 p.f5 _ _ (Kd.C_below HC2.out (B2.out.trans (B3.out.mono B2.out.size))) HK2.out (Kd.C_below HC3.out (B2.out.trans (B3.out.mono B2.out.size))) HK3.out (Kd.C_below HC4.out (B2.out.trans (B3.out.mono B2.out.size))) HK4.out (Kd.C_below HC5.out (B2.out.trans (B3.out.mono B2.out.size))) HK5.out EE.out).mono ?_; rintro e w4 ⟨rfl, hb4⟩; have B4 := Aside0.mk hb4; have PB4 := Aside0.mk ((hb4.block w.heap.size (lt_of_blk PB3.out)).trans PB3.out); have CB4 := Aside0.mk ((hb4.block cb (lt_of_blk CB3.out)).trans CB3.out); clear hb4; have t0 : w4.cell? ⟨w.heap.size, 0, none⟩ = some (.int .i64 p.f0) := row_at PB4.out 0 _ rfl; have t1 : w4.cell? ⟨w.heap.size, 1, none⟩ = some (.int .i64 p.f1) := row_at PB4.out 1 _ rfl; have t2 : w4.cell? ⟨w.heap.size, 2, none⟩ = some (.slice A2 p.f2.length c2) := row_at PB4.out 2 _ rfl; have t3 : w4.cell? ⟨w.heap.size, 3, none⟩ = some (.slice A3 p.f3.length c3) := row_at PB4.out 3 _ rfl; have t4 : w4.cell? ⟨w.heap.size, 4, none⟩ = some (.slice A4 p.f4.length c4) := row_at PB4.out 4 _ rfl; have t5 : w4.cell? ⟨w.heap.size, 5, none⟩ = some (.slice A5 p.f5.length c5) := row_at PB4.out 5 _ rfl) | (go_at_call 67; have UU := (ups_calls w0 w4 (B2.out.trans ((B3.out.trans (B4.out.mono B3.out.size)).mono B2.out.size)) p.f0 p.f1 A2 c2 p.f2 HC2.out A3 p.f3.length c3 A4 p.f4.length c4 A5 p.f5.length c5 ab v ((hA2.out.below B3.out).below B4.out)); rw [hups] at UU; refine UU.mono ?_; clear UU; rintro e w5 ⟨rfl, hb5⟩; have B5 := Aside0.mk hb5; have PB5 := Aside0.mk ((hb5.block w.heap.size (lt_of_blk PB4.out)).trans PB4.out); have CB5 := Aside0.mk ((hb5.block cb (lt_of_blk CB4.out)).trans CB4.out); clear hb5; have y0 : w5.cell? ⟨w.heap.size, 0, none⟩ = some (.int .i64 p.f0) := row_at PB5.out 0 _ rfl; have y1 : w5.cell? ⟨w.heap.size, 1, none⟩ = some (.int .i64 p.f1) := row_at PB5.out 1 _ rfl; have y2 : w5.cell? ⟨w.heap.size, 2, none⟩ = some (.slice A2 p.f2.length c2) := row_at PB5.out 2 _ rfl; have y3 : w5.cell? ⟨w.heap.size, 3, none⟩ = some (.slice A3 p.f3.length c3) := row_at PB5.out 3 _ rfl; have y4 : w5.cell? ⟨w.heap.size, 4, none⟩ = some (.slice A4 p.f4.length c4) := row_at PB5.out 4 _ rfl; have y5 : w5.cell? ⟨w.heap.size, 5, none⟩ = some (.slice A5 p.f5.length c5) := row_at PB5.out 5 _ rfl))
        have M5 : Aside0 (Moved (fun k => k = cb) w w5) := ⟨((M2.out.next B3.out).next B4.out).next B5.out⟩
        have B05 : Aside0 (Below w0.heap.size w0 w5) := ⟨B2.out.trans ((B3.out.trans ((B4.out.trans (B5.out.mono B4.out.size)).mono B3.out.size)).mono B2.out.size)⟩
        have HCB0 : Aside0 (w0.heap.size ≤ cb) := hcb0
        clear M2 B2 B3 B4 PB PB3 PB4 CB CB3 CB4 rc r0 r1 r2 r3 r4 r5 s0 s1 s2 s3 s4 s5 t0 t1 t2 t3 t4 t5 hA2 CC EE HNE
        go_loopw [87] (fun s wr => ∃ k : Nat, s = .int .i64 k ∧ k ≤ p.f3.length ∧ Aside0 (Below w5.heap.size w5 wr) ∧ Aside0 (∀ j (hj : j < p.f3.length), j < k → canM p p.f3[j] = true)) (fun s _ => p.f3.length - (intOf s).toNat)
        case atStart => exact ⟨0, rfl, Nat.zero_le _, ⟨Below.refl _ _⟩, ⟨fun j hj h => absurd h (Nat.not_lt_zero _)⟩⟩
        case round =>
          obtain ⟨k, rfl, hk, hB, hN⟩ := hrel
          have PBr := Aside0.mk ((hB.out.block w.heap.size (lt_of_blk PB5.out)).trans PB5.out)
          have CBr := Aside0.mk ((hB.out.block cb (lt_of_blk CB5.out)).trans CB5.out)
          have B0r : Aside0 (Below w0.heap.size w0 wr) := ⟨B05.out.trans (hB.out.mono B05.out.size)⟩
          by_cases hlt : k < p.f3.length
          · have i1 : (k : Int) < (p.f3.length : Int) := by omega
            obtain ⟨ad, rfl, x0, x1, x2, x3⟩ := at_T36 (Kd.C_below HC3.out B0r.out) (k : Int) (by omega) (by omega)
            have hx : rd_T36 p.f3 (k : Int) = p.f3[k] := by simp [rd_T36, hlt]
            have HS := Aside0.mk (all_not (canM p) p.f3 k hlt)
            have HT := Aside0.mk (show ∀ h : canM p p.f3[k] = true, ∀ j (hj : j < p.f3.length), j < k + 1 → canM p p.f3[j] = true from fun h j hj hjk => by
              by_cases e : j = k
              · subst e; exact h
              · exact hN.out j hj (by omega))
            rw [hx] at x0 x1 x2 x3
            rw [Int.toNat_natCast] at x0 x1 x2 x3
            generalize p.f3[k] = i at x0 x1 x2 x3 HS HT
            have BA := Aside0.mk ((Below.refl wr.heap.size wr).alloc (Nat.le_refl _) (.cells #[.int .i64 i.f0, .int .i64 i.f1, .int .i64 i.f2, .int .i64 i.f3] 36))
            have PBA := Aside0.mk ((BA.out.block w.heap.size (lt_of_blk PBr.out)).trans PBr.out)
            have CBA := Aside0.mk ((BA.out.block cb (lt_of_blk CBr.out)).trans CBr.out)
            have a0 : (wr.alloc (.cells #[.int .i64 i.f0, .int .i64 i.f1, .int .i64 i.f2, .int .i64 i.f3] 36)).cell? ⟨w.heap.size, 0, none⟩ = some (.int .i64 p.f0) := row_at PBA.out 0 _ rfl
            have a1 : (wr.alloc (.cells #[.int .i64 i.f0, .int .i64 i.f1, .int .i64 i.f2, .int .i64 i.f3] 36)).cell? ⟨w.heap.size, 1, none⟩ = some (.int .i64 p.f1) := row_at PBA.out 1 _ rfl
            have a2 : (wr.alloc (.cells #[.int .i64 i.f0, .int .i64 i.f1, .int .i64 i.f2, .int .i64 i.f3] 36)).cell? ⟨w.heap.size, 2, none⟩ = some (.slice A2 p.f2.length c2) := row_at PBA.out 2 _ rfl
            have a3 : (wr.alloc (.cells #[.int .i64 i.f0, .int .i64 i.f1, .int .i64 i.f2, .int .i64 i.f3] 36)).cell? ⟨w.heap.size, 3, none⟩ = some (.slice (some ad) p.f3.length c3) := row_at PBA.out 3 _ rfl
            have a4 : (wr.alloc (.cells #[.int .i64 i.f0, .int .i64 i.f1, .int .i64 i.f2, .int .i64 i.f3] 36)).cell? ⟨w.heap.size, 4, none⟩ = some (.slice A4 p.f4.length c4) := row_at PBA.out 4 _ rfl
            have a5 : (wr.alloc (.cells #[.int .i64 i.f0, .int .i64 i.f1, .int .i64 i.f2, .int .i64 i.f3] 36)).cell? ⟨w.heap.size, 5, none⟩ = some (.slice A5 p.f5.length c5) := row_at PBA.out 5 _ rfl
            cases hcan : canM p i with
            | false =>
              have HR : Aside0 (chk p ab deep many = (many + 1, 1)) := ⟨by rw [HCH3.out, HS.out hcan, if_neg (by simp)]⟩
              go_wp2_with (go_at_call 68; refine (can_calls (wr.alloc (.cells #[.int .i64 i.f0, .int .i64 i.f1, .int .i64 i.f2, .int .i64 i.f3] 36)) (globBelow HG.out (B0r.out.trans (BA.out.mono B0r.out.size))) p A2 c2 (some ad) c3 A4 c4 A5 c5 i (by omega) (by omega) (by omega) (by omega)).mono ?_; rw [hcan]; rintro e w6 ⟨rfl, hb6⟩; have B6 := Aside0.mk hb6; clear hb6)
              go_ret
              rw [HR.out]
              exact ⟨rfl, ((M5.out.next hB.out).next BA.out).next B6.out, (B6.out.block cb (lt_of_blk CBA.out)).trans CBA.out⟩
            | true =>
              go_wp2_with (go_at_call 68; refine (can_calls (wr.alloc (.cells #[.int .i64 i.f0, .int .i64 i.f1, .int .i64 i.f2, .int .i64 i.f3] 36)) (globBelow HG.out (B0r.out.trans (BA.out.mono B0r.out.size))) p A2 c2 (some ad) c3 A4 c4 A5 c5 i (by omega) (by omega) (by omega) (by omega)).mono ?_; rw [hcan]; rintro e w6 ⟨rfl, hb6⟩; have B6 := Aside0.mk hb6; clear hb6)
              go_round
              case rel => exact ⟨k + 1, by go_num, by omega, ⟨hB.out.trans ((BA.out.trans (B6.out.mono BA.out.size)).mono hB.out.size)⟩, ⟨HT.out hcan⟩⟩
              case measure => simp [intOf]; omega
          · obtain rfl : k = p.f3.length := by omega
            have i1 : ¬ (p.f3.length : Int) < (p.f3.length : Int) := by omega
            have HR : Aside0 (chk p ab deep many = chkL p.f5 (p.f1, (p.f2.length : Int)) (deep + 1) (many + 1)) := ⟨by rw [HCH3.out, if_pos (all_drop _ _ (fun j hj => hN.out j hj hj))]⟩
            have M6 : Aside0 (Moved (fun k => k = cb) w wr) := ⟨M5.out.next hB.out⟩
            obtain ⟨w6, hw6⟩ : ∃ w6, w6 = wr := ⟨_, rfl⟩
            rw [← hw6] at M6 PBr CBr B0r ⊢
            clear hw6 hN hB HCH3
            have z0 : w6.cell? ⟨w.heap.size, 0, none⟩ = some (.int .i64 p.f0) := row_at PBr.out 0 _ rfl
            have z1 : w6.cell? ⟨w.heap.size, 1, none⟩ = some (.int .i64 p.f1) := row_at PBr.out 1 _ rfl
            have z2 : w6.cell? ⟨w.heap.size, 2, none⟩ = some (.slice A2 p.f2.length c2) := row_at PBr.out 2 _ rfl
            have z3 : w6.cell? ⟨w.heap.size, 3, none⟩ = some (.slice A3 p.f3.length c3) := row_at PBr.out 3 _ rfl
            have z4 : w6.cell? ⟨w.heap.size, 4, none⟩ = some (.slice A4 p.f4.length c4) := row_at PBr.out 4 _ rfl
            have z5 : w6.cell? ⟨w.heap.size, 5, none⟩ = some (.slice A5 p.f5.length c5) := row_at PBr.out 5 _ rfl
            go_wp2_with fail
            clear z0 z1 z2 z3 z4 z5
            go_loopw [99] (fun s wr => ∃ (k : Nat) (m : Int), s = .int .i64 k ∧ k ≤ p.f5.length ∧ Aside0 (Moved (fun k => k = cb) w6 wr) ∧ Aside0 (wr.heap[cb]? = some (.cells #[.int .i64 m] 75 (0, 0))) ∧ Aside0 (chkL p.f5 (p.f1, (p.f2.length : Int)) (deep + 1) (many + 1) = chkL (p.f5.drop k) (p.f1, (p.f2.length : Int)) (deep + 1) m ∧ 0 ≤ m ∧ m ≤ 4096)) (fun s _ => p.f5.length - (intOf s).toNat)
            case atStart => exact ⟨0, many + 1, rfl, Nat.zero_le _, ⟨Moved.refl _ _⟩, CBr, ⟨by rw [List.drop_zero], by omega, by omega⟩⟩
            case round =>
              obtain ⟨k, m, rfl, hk, hM, CBz, hN⟩ := hrel
              have hcw6 : w.heap.size < w6.heap.size := lt_of_blk PBr.out
              have hcwz : cb ≠ w.heap.size := by omega
              have PBz := Aside0.mk ((hM.out.block w.heap.size hcw6 (fun e => hcwz e.symm)).trans PBr.out)
              have B0z : Aside0 (Below w0.heap.size w0 wr) := ⟨B0r.out.trans (hM.out.below (fun k hk => by rw [hk]; exact HCB0.out) B0r.out.size)⟩
              by_cases hlt : k < p.f5.length
              · have i1 : (k : Int) < (p.f5.length : Int) := by omega
                obtain ⟨ad, D2, d2, D3, d3, D4, d4, D5, d5, rfl, x0, x1, x2, x3, x4, x5, e2, g2, e3, g3, e4, g4, e5, g5⟩ := at_T27 HC5.out (k : Int) (by omega) (by omega)
                have hx : rd_T27 p.f5 (k : Int) = p.f5[k] := by simp [rd_T27, hlt]
                have HQM := Aside0.mk (show p.f5[k] ∈ p.f5 from List.getElem_mem _)
                have HD := Aside0.mk (chkL_drop p.f5 k hlt (p.f1, (p.f2.length : Int)) (deep + 1) m)
                rw [hx] at x0 x1 x2 x3 x4 x5 e2 g2 e3 g3 e4 g4 e5 g5
                rw [Int.toNat_natCast] at x0 x1 x2 x3 x4 x5
                generalize p.f5[k] = q at x0 x1 x2 x3 x4 x5 e2 g2 e3 g3 e4 g4 e5 g5 HQM HD
                have G := Aside0.mk (And.intro g2 (And.intro g3 (And.intro g4 (And.intro g5 (And.intro e2 (And.intro e3 (And.intro e4 e5)))))))
                replace x0 := pw_cell_below B0z.out x0
                replace x1 := pw_cell_below B0z.out x1
                replace x2 := pw_cell_below B0z.out x2
                replace x3 := pw_cell_below B0z.out x3
                replace x4 := pw_cell_below B0z.out x4
                replace x5 := pw_cell_below B0z.out x5
                clear g2 g3 g4 g5 e2 e3 e4 e5 hx
                have BZ := Aside0.mk ((Below.refl wr.heap.size wr).alloc (Nat.le_refl _) (.cells #[.int .i64 q.f0, .int .i64 q.f1, .slice D2 q.f2.length d2, .slice D3 q.f3.length d3, .slice D4 q.f4.length d4, .slice D5 q.f5.length d5] 27))
                have PBA := Aside0.mk ((BZ.out.block w.heap.size (lt_of_blk PBz.out)).trans PBz.out)
                obtain ⟨rr, hrr⟩ : ∃ rr, chk q (some (p.f1, (p.f2.length : Int))) (deep + 1) m = rr := ⟨_, rfl⟩
                have hbd := chk_bound q (some (p.f1, (p.f2.length : Int))) (deep + 1) m hN.out.2.1
                rw [hrr] at HD hbd
                have HBD := Aside0.mk hbd
                clear hbd
                obtain ⟨ra, rb⟩ := rr
                dsimp only at HD HBD
                by_cases hz : rb = 0
                · subst hz
                  rw [if_pos rfl] at HD
                  go_wp2_with (go_at_call 42; refine (IH.out q (by have := sizeOf_mem HQM.out; have := HP.out; omega) w0 (wr.alloc (.cells #[.int .i64 q.f0, .int .i64 q.f1, .slice D2 q.f2.length d2, .slice D3 q.f3.length d3, .slice D4 q.f4.length d4, .slice D5 q.f5.length d5] 27)) (B0z.out.trans (BZ.out.mono B0z.out.size)) HG.out D2 d2 D3 d3 D4 d4 D5 d5 G.out.1 G.out.2.1 G.out.2.2.1 G.out.2.2.2.1 G.out.2.2.2.2.1 G.out.2.2.2.2.2.1 G.out.2.2.2.2.2.2.1 G.out.2.2.2.2.2.2.2 (wordsL_mem (words_protos HW.out) HQM.out) cb HCB0.out (some (p.f1, (p.f2.length : Int))) (.pointer (some ⟨w.heap.size, 0, none⟩)) (deep + 1) m ((BZ.out.block cb (lt_of_blk CBz.out)).trans CBz.out) ⟨w.heap.size, A2, p.f2.length, c2, rfl, row_at PBA.out 1 _ rfl, row_at PBA.out 2 _ rfl, rfl⟩ (fun b hb => by injection hb with hb; injection hb with hb; injection hb with hb; omega) (by omega) (by omega) hN.out.2.1 hN.out.2.2).mono ?_; rintro e w7 ⟨rfl, hm7, hc7⟩; rw [hrr] at hc7 ⊢; have M7 := Aside0.mk hm7; have C7 := Aside0.mk hc7; clear hm7 hc7)
                  go_round
                  case rel => exact ⟨k + 1, ra, by go_num, by omega, ⟨(hM.out.next BZ.out).trans M7.out (fun i h => .inl h)⟩, C7, ⟨by rw [hN.out.1, HD.out], HBD.out.1, HBD.out.2 (by simp)⟩⟩
                  case measure => simp [intOf]; omega
                · have hz1 : (rb != 0) = true := bne_iff_ne.mpr hz
                  rw [if_neg hz] at HD
                  go_wp2_with (go_at_call 42; refine (IH.out q (by have := sizeOf_mem HQM.out; have := HP.out; omega) w0 (wr.alloc (.cells #[.int .i64 q.f0, .int .i64 q.f1, .slice D2 q.f2.length d2, .slice D3 q.f3.length d3, .slice D4 q.f4.length d4, .slice D5 q.f5.length d5] 27)) (B0z.out.trans (BZ.out.mono B0z.out.size)) HG.out D2 d2 D3 d3 D4 d4 D5 d5 G.out.1 G.out.2.1 G.out.2.2.1 G.out.2.2.2.1 G.out.2.2.2.2.1 G.out.2.2.2.2.2.1 G.out.2.2.2.2.2.2.1 G.out.2.2.2.2.2.2.2 (wordsL_mem (words_protos HW.out) HQM.out) cb HCB0.out (some (p.f1, (p.f2.length : Int))) (.pointer (some ⟨w.heap.size, 0, none⟩)) (deep + 1) m ((BZ.out.block cb (lt_of_blk CBz.out)).trans CBz.out) ⟨w.heap.size, A2, p.f2.length, c2, rfl, row_at PBA.out 1 _ rfl, row_at PBA.out 2 _ rfl, rfl⟩ (fun b hb => by injection hb with hb; injection hb with hb; injection hb with hb; omega) (by omega) (by omega) hN.out.2.1 hN.out.2.2).mono ?_; rintro e w7 ⟨rfl, hm7, hc7⟩; rw [hrr] at hc7 ⊢; have M7 := Aside0.mk hm7; have C7 := Aside0.mk hc7; clear hm7 hc7)
                  go_ret
                  rw [HR.out]
                  exact ⟨by rw [hN.out.1, HD.out]; rfl, M6.out.trans ((hM.out.next BZ.out).trans M7.out (fun i h => .inl h)) (fun i h => .inl h), by rw [hN.out.1, HD.out]; exact C7.out⟩
              · obtain rfl : k = p.f5.length := by omega
                have i1 : ¬ (p.f5.length : Int) < (p.f5.length : Int) := by omega
                have HE : Aside0 (chkL p.f5 (p.f1, (p.f2.length : Int)) (deep + 1) (many + 1) = (m, 0)) := ⟨by rw [hN.out.1, List.drop_length, chkL]⟩
                go_wp2_with fail
                go_ret
                rw [HR.out, HE.out]
                exact ⟨rfl, M6.out.trans hM.out (fun i h => .inl h), CBz.out⟩
def prog_Check.f (a0_0 : Int) (a0_1 : Int) (l0_2 : List S94) (l0_3 : List S36) (l0_4 : List S98) (l0_5 : List S27) : Option Int := if wordsM ⟨a0_0, a0_1, l0_2, l0_3, l0_4, l0_5⟩ = true then some (chk ⟨a0_0, a0_1, l0_2, l0_3, l0_4, l0_5⟩ none 0 0).2 else none
def prog_check.f (a0_0 : Int) (a0_1 : Int) (l0_2 : List S94) (l0_3 : List S36) (l0_4 : List S98) (l0_5 : List S27) : Option Int := prog_Check.f a0_0 a0_1 l0_2 l0_3 l0_4 l0_5
set_option maxRecDepth 100000 in
set_option maxHeartbeats 2000000 in
theorem prog_check.calls (a0_0 : Int) (a0_1 : Int) (A0_2 : Option Addr) (c0_2 : Nat) (l0_2 : List S94) (A0_3 : Option Addr) (c0_3 : Nat) (l0_3 : List S36) (A0_4 : Option Addr) (c0_4 : Nat) (l0_4 : List S98) (A0_5 : Option Addr) (c0_5 : Nat) (l0_5 : List S27) (r : Int) (w : World)
    (hr0_2 : Kd.C k94 w A0_2 l0_2.length l0_2) (hc0_2 : l0_2.length ≤ c0_2) (hr0_3 : Kd.C k36 w A0_3 l0_3.length l0_3) (hc0_3 : l0_3.length ≤ c0_3) (hr0_4 : Kd.C k98 w A0_4 l0_4.length l0_4) (hc0_4 : l0_4.length ≤ c0_4) (hr0_5 : Kd.C k27 w A0_5 l0_5.length l0_5) (hc0_5 : l0_5.length ≤ c0_5) (hG : OrdersLaid w) (h : prog_check.f a0_0 a0_1 l0_2 l0_3 l0_4 l0_5 = some r) :
    Calls Tryd.prog 29 #[.agg #[.int .i64 a0_0, .int .i64 a0_1, .slice A0_2 l0_2.length c0_2, .slice A0_3 l0_3.length c0_3, .slice A0_4 l0_4.length c0_4, .slice A0_5 l0_5.length c0_5]] w fun e w' => e = .returned (.int .i64 r) ∧ Below w.heap.size w w' := by
  unfold prog_check.f prog_Check.f at h
  by_cases hw : wordsM ⟨a0_0, a0_1, l0_2, l0_3, l0_4, l0_5⟩ = true
  · rw [if_pos hw] at h
    obtain rfl := Option.some.inj h
    obtain ⟨W2, hW2⟩ : ∃ W2, W2 = (w.alloc (.cells #[.int .i64 a0_0, .int .i64 a0_1, .slice A0_2 l0_2.length c0_2, .slice A0_3 l0_3.length c0_3, .slice A0_4 l0_4.length c0_4, .slice A0_5 l0_5.length c0_5] 27)).alloc (.cells #[.int .i64 0] 75) := ⟨_, rfl⟩
    have B2 : Below w.heap.size w W2 := by rw [hW2]; exact ((Below.refl w.heap.size w).alloc (Nat.le_refl _) _).alloc (by simp) _
    have CB : W2.heap[w.heap.size + 1]? = some (.cells #[.int .i64 0] 75 (0, 0)) := by
      have h := heap_alloc_new (w.alloc (.cells #[.int .i64 a0_0, .int .i64 a0_1, .slice A0_2 l0_2.length c0_2, .slice A0_3 l0_3.length c0_3, .slice A0_4 l0_4.length c0_4, .slice A0_5 l0_5.length c0_5] 27)) (.cells #[.int .i64 0] 75)
      rw [← hW2, show (w.alloc (.cells #[.int .i64 a0_0, .int .i64 a0_1, .slice A0_2 l0_2.length c0_2, .slice A0_3 l0_3.length c0_3, .slice A0_4 l0_4.length c0_4, .slice A0_5 l0_5.length c0_5] 27)).heap.size = w.heap.size + 1 by simp] at h
      exact h
    have HF := Aside0.mk (function_calls _ ⟨a0_0, a0_1, l0_2, l0_3, l0_4, l0_5⟩ (Nat.le_refl _) w W2 B2 hG A0_2 c0_2 A0_3 c0_3 A0_4 c0_4 A0_5 c0_5 hr0_2 hr0_3 hr0_4 hr0_5 hc0_2 hc0_3 hc0_4 hc0_5 hw (w.heap.size + 1) (by omega) none (.pointer none) 0 0 CB rfl (fun b hb => by injection hb with hb; cases hb) (by omega) (by omega) (by omega) (by omega))
    have HB2 := Aside0.mk B2
    have k0 : (w.alloc (.cells #[.int .i64 a0_0, .int .i64 a0_1, .slice A0_2 l0_2.length c0_2, .slice A0_3 l0_3.length c0_3, .slice A0_4 l0_4.length c0_4, .slice A0_5 l0_5.length c0_5] 27)).cell? ⟨w.heap.size, 0, none⟩ = some (.int .i64 a0_0) := row_at (heap_alloc_new w _) 0 _ rfl
    clear hr0_2 hr0_3 hr0_4 hr0_5 hc0_2 hc0_3 hc0_4 hc0_5 hG h hw B2 CB
    go_enter Tryd.func29, Tryd.ntmps29
    go_wp2_with (go_at_call 42; rw [← hW2]; refine HF.out.mono ?_; rintro e w3 ⟨rfl, hm, hc⟩; have M3 := Aside0.mk hm; clear hm hc)
    go_ret
    exact ⟨rfl, HB2.out.trans (M3.out.below (fun k hk => by omega) HB2.out.size)⟩
  · rw [if_neg hw] at h
    cases h
set_option maxRecDepth 100000 in
set_option maxHeartbeats 2000000 in
theorem prog_Check.calls (a0_0 : Int) (a0_1 : Int) (A0_2 : Option Addr) (c0_2 : Nat) (l0_2 : List S94) (A0_3 : Option Addr) (c0_3 : Nat) (l0_3 : List S36) (A0_4 : Option Addr) (c0_4 : Nat) (l0_4 : List S98) (A0_5 : Option Addr) (c0_5 : Nat) (l0_5 : List S27) (r : Int) (w : World)
    (hr0_2 : Kd.C k94 w A0_2 l0_2.length l0_2) (hc0_2 : l0_2.length ≤ c0_2) (hr0_3 : Kd.C k36 w A0_3 l0_3.length l0_3) (hc0_3 : l0_3.length ≤ c0_3) (hr0_4 : Kd.C k98 w A0_4 l0_4.length l0_4) (hc0_4 : l0_4.length ≤ c0_4) (hr0_5 : Kd.C k27 w A0_5 l0_5.length l0_5) (hc0_5 : l0_5.length ≤ c0_5) (hG : OrdersLaid w) (h : prog_Check.f a0_0 a0_1 l0_2 l0_3 l0_4 l0_5 = some r) :
    Calls Tryd.prog 10 #[.agg #[.int .i64 a0_0, .int .i64 a0_1, .slice A0_2 l0_2.length c0_2, .slice A0_3 l0_3.length c0_3, .slice A0_4 l0_4.length c0_4, .slice A0_5 l0_5.length c0_5]] w fun e w' => e = .returned (.int .i64 r) ∧ Below w.heap.size w w' := by
  obtain ⟨W1, hW1⟩ : ∃ W1, W1 = w.alloc (.cells #[.int .i64 a0_0, .int .i64 a0_1, .slice A0_2 l0_2.length c0_2, .slice A0_3 l0_3.length c0_3, .slice A0_4 l0_4.length c0_4, .slice A0_5 l0_5.length c0_5] 27) := ⟨_, rfl⟩
  have B1 : Below w.heap.size w W1 := by rw [hW1]; exact (Below.refl w.heap.size w).alloc (Nat.le_refl _) _
  have HF := Aside0.mk (prog_check.calls a0_0 a0_1 A0_2 c0_2 l0_2 A0_3 c0_3 l0_3 A0_4 c0_4 l0_4 A0_5 c0_5 l0_5 r W1 (Kd.C_below hr0_2 B1) hc0_2 (Kd.C_below hr0_3 B1) hc0_3 (Kd.C_below hr0_4 B1) hc0_4 (Kd.C_below hr0_5 B1) hc0_5 (globBelow hG B1) h)
  have HB1 := Aside0.mk B1
  clear hr0_2 hr0_3 hr0_4 hr0_5 hc0_2 hc0_3 hc0_4 hc0_5 hG h B1
  go_enter Tryd.func10, Tryd.ntmps10
  go_wp2_with (go_at_call 29; rw [← hW1]; refine HF.out.mono ?_; rintro e w3 ⟨rfl, hb⟩; have B3 := Aside0.mk hb; clear hb)
  go_ret
  exact ⟨rfl, below_step HB1.out B3.out⟩
end Go.Proofs.YtlhnkfheojlghaaDoor.Pr
end
section
namespace Go.Proofs.YtlhnkfheojlghaaDoor.Pr
open Go.RowKit Go.Proofs.YtlhnkfheojlghaaDoorW.PrintWords Go.Proofs.YtlhnkfheojlghaaDoorW.PrintLast Go.Proofs.YtlhnkfheojlghaaDoorW.PrintMore Go.Shelf
shelf_lay Lays.n169 Nm 169 at Tryd as Tryd.laysSt
theorem extraSt : Builder.Extra Tryd.prog Tryd.laysSt_ren where
  sizeBuilder := by kernel_rfl
  liesBuilder := by kernel_rfl
  t5 := Tryd.underlying5
  a5 := fun w => by kernel_rfl
  z5 := fun w => by kernel_rfl
  v5 := fun w => by kernel_rfl
  infoByte := by kernel_rfl
  cellsByte := by kernel_rfl
  sizeByte := by kernel_rfl
  neB5 := by decide
def BIs (w : World) (B b : Nat) (l : List UInt8) : Prop := Lib.IsBuilderF 58 5 B b (Lib.byteCells l) w
def Oth (b : Nat) (w w' : World) : Prop := Lib.OthersKept 5 (some b) w w'
theorem byteCells_app (a b : List UInt8) : Lib.byteCells (a ++ b) = Lib.byteCells a ++ Lib.byteCells b := by simp [Lib.byteCells]
theorem infoBld : ∃ j, Tryd.prog.info? 58 = some j ∧ j.size = 2 := Option.map_eq_some_iff.1 (show (Tryd.prog.info? 58).map (·.size) = some 2 by kernel_rfl)
theorem infoByte1 : (Tryd.prog.info? 5).map (fun i => (i.zero, i.size, i.bytes)) = some (some (.int .u8 0), 1, 1) := by kernel_rfl
set_option maxHeartbeats 1000000 in
set_option maxRecDepth 100000 in
theorem cc_calls (B b : Nat) (bs : List Value) (w : World) (h : Lib.IsBuilderF 58 5 B b bs w) :
    Calls Tryd.prog 71 #[.pointer (some ⟨b, 0, none⟩)] w fun e w' => e = .returned (.tuple #[]) ∧ Lib.BuilderAtF 58 5 B b (.pointer (some ⟨b, 0, none⟩)) bs w' ∧ Below B w w' ∧ Lib.OthersKept 5 (some b) w w' := by
  obtain ⟨j, hj, hjs⟩ := infoBld
  rcases h with h | h
  · have h0 := h.cell0
    have hsh := h.shape
    have hfz := h.frozen0
    go_enter Tryd.func71, Tryd.ntmps71
    go_wp2
    rw [Lib.run_to_unsafe w ⟨b, 0, none⟩ Tryd.underlying55 Tryd.underlying119 hj (by rw [hjs]; decide) hsh (Nat.zero_lt_succ 1)]
    simp only [Result.andThen]
    rw [Oper.upon_value]
    go_wp2
    rw [run_callFunc_extern Tryd.func80 (by kernel_rfl) (by kernel_rfl) (by kernel_rfl) (e := Extern.AbiNoEscape.same) (by kernel_rfl)]
    rw [Lib.run_noEscape]
    simp only [Result.andThen]
    rw [Oper.upon_value]
    go_wp2
    rw [Lib.run_from_unsafe w ⟨b, 0, none⟩ Tryd.underlying119 Tryd.underlying55 hj hsh (by kernel_rfl)]
    simp only [Result.andThen]
    rw [Oper.upon_value]
    go_wp2
    try (rw [Lib.run_neq_ptr_same _ _ Tryd.underlying55 hj])
    try go_wp2
    go_end0
    exact ⟨rfl, h.used _, (Below.refl B w).setCell (p := ⟨b, 0, none⟩) h.1 _, (Lib.OthersKept.refl _ _ w).setCell ⟨b, 0, none⟩ rfl _⟩
  · have h0 := h.cell0
    go_enter Tryd.func71, Tryd.ntmps71
    go_wp2
    rw [Lib.run_neq_ptr_same w _ Tryd.underlying55 hj]
    go_wp2
    go_end0
    exact ⟨rfl, h, Below.refl B _, Lib.OthersKept.refl _ _ _⟩
set_option maxHeartbeats 1000000 in
set_option maxRecDepth 100000 in
theorem ws_calls (w : World) (B b : Nat) (l : List UInt8) (s : ByteArray) (h : BIs w B b l) (hlen : l.length + s.size ≤ 140737488355328) (hBw : B ≤ w.heap.size) :
    Calls Tryd.prog 44 #[.pointer (some ⟨b, 0, none⟩), .string s] w fun e w' => e = .returned (.tuple #[.int .i64 s.size, .nilIface]) ∧ BIs w' B b (l ++ s.data.toList) ∧ Below B w w' ∧ Oth b w w' := by
  have hl := Lib.byteCells_length l
  obtain ⟨i0, hi, hz0, hz1, hz2⟩ := info_parts infoByte1
  have h' : Lib.IsBuilderF 58 5 B b (Lib.byteCells l) w := h
  clear h
  go_enter Tryd.func44, Tryd.ntmps44
  go_wp2_with (go_at_call 71; refine (cc_calls B b _ _ h').mono ?_)
  rintro e w1 ⟨rfl, h1, hb1, hk1⟩
  obtain ⟨hB, v, hbk, hown, hne⟩ := h1
  have c0 : w1.cell? ⟨b, 0, none⟩ = some (.pointer (some ⟨b, 0, none⟩)) := by rw [Lib.cell_of_heap hbk]; rfl
  have c1 : w1.cell? ⟨b, 1, none⟩ = some v := by rw [Lib.cell_of_heap hbk]; rfl
  go_wp2_with (at_builtin; refine Lib.wpList_append_own_stringF _ rfl _ _ 56 9 rfl B 5 i0 Tryd.underlying56 Tryd.underlying9 hi hz0 hz1 hz2 _ _ _ rfl hown s rfl ?c3 ?c4 ?c5 ?_)
  case c3 => unfold maxLen; omega
  case c4 => omega
  case c5 => have := hb1.size; omega
  intro v' w2 hown' hgrow _
  have hlt : b < w1.heap.size := by
    rcases Nat.lt_or_ge b w1.heap.size with h' | h'
    · exact h'
    · simp [Array.getElem?_eq_none h'] at hbk
  have hb2 : w2.heap[b]? = some (.cells #[.pointer (some ⟨b, 0, none⟩), v] 58 (0, 0)) := by
    rw [hgrow.block b hlt (fun e => hne e.symm)]
    exact hbk
  have d0 : w2.cell? ⟨b, 0, none⟩ = some (.pointer (some ⟨b, 0, none⟩)) := by rw [Lib.cell_of_heap hb2]; rfl
  have d1 : w2.cell? ⟨b, 1, none⟩ = some v := by rw [Lib.cell_of_heap hb2]; rfl
  have f1 : w2.frozen? ⟨b, 1, none⟩ = false := Lib.frozen_of_heap hb2 1
  obtain ⟨ao, n', cap, rfl⟩ : ∃ ao n' cap, v' = .slice ao n' cap := by
    rcases hown'.2 with ⟨hv, _⟩ | ⟨g, cap, cur, fz, hv, _⟩
    · exact ⟨_, _, _, hv⟩
    · exact ⟨_, _, _, hv⟩
  go_wp2
  go_ret2
  refine ⟨rfl, .inr ?_, ?_, (hk1.grown hgrow (Lib.ownsRowF_kind hown)).setCell ⟨b, 1, none⟩ rfl _⟩
  · rw [byteCells_app]
    exact Lib.BuilderAtF.put hB hb2 (bs' := Lib.byteCells l ++ Lib.strCells s) (by rw [List.length_append, Lib.strCells_length, hl]; exact hown') (by decide)
  · exact (hb1.grown hgrow (by have := hb1.size; omega) (fun k hk => (hown.lt k hk).1)).setCell (p := ⟨b, 1, none⟩) hB _
set_option maxHeartbeats 1000000 in
set_option maxRecDepth 100000 in
theorem wb_calls (w : World) (B b : Nat) (l : List UInt8) (h : BIs w B b l) (hlen : l.length + 1 ≤ 140737488355328) (hBw : B ≤ w.heap.size) :
    Calls Tryd.prog 47 #[.pointer (some ⟨b, 0, none⟩), .int .u8 10] w fun e w' => e = .returned .nilIface ∧ BIs w' B b (l ++ [10]) ∧ Below B w w' ∧ Oth b w w' := by
  have hl := Lib.byteCells_length l
  obtain ⟨i0, hi, hz0, hz1, hz2⟩ := info_parts infoByte1
  have h' : Lib.IsBuilderF 58 5 B b (Lib.byteCells l) w := h
  clear h
  go_enter Tryd.func47, Tryd.ntmps47
  go_wp2_with (go_at_call 71; refine (cc_calls B b _ _ h').mono ?_)
  rintro e w1 ⟨rfl, h1, hb1, hk1⟩
  obtain ⟨hB, v, hbk, hown, hne⟩ := h1
  have c0 : w1.cell? ⟨b, 0, none⟩ = some (.pointer (some ⟨b, 0, none⟩)) := by rw [Lib.cell_of_heap hbk]; rfl
  have c1 : w1.cell? ⟨b, 1, none⟩ = some v := by rw [Lib.cell_of_heap hbk]; rfl
  go_wp2_with (at_builtin; refine wpList_append_ownF _ rfl _ _ 56 rfl B 5 i0 (.int .u8 0) 1 1 Tryd.underlying56 hi hz0 hz1 hz2 rfl (by decide) _ _ _ rfl (hown.alloc _) ⟨w1.heap.size, 0, none⟩ 1 1 [.int .u8 10] rfl rfl ?c1 ?c2 ?c3 ?c4 ?c5 ?_)
  case c1 =>
    intro j u hj
    match j, hj with
    | 0, hj => simp at hj; subst hj; simp [Addr.add]
  case c2 => intro u hu; simp at hu; subst hu; rfl
  case c3 => unfold maxLen; omega
  case c4 => omega
  case c5 => have := hb1.size; simp; omega
  intro v' w2 hown' hgrow _
  have hlt : b < w1.heap.size := by
    rcases Nat.lt_or_ge b w1.heap.size with h' | h'
    · exact h'
    · simp [Array.getElem?_eq_none h'] at hbk
  have hb2 : w2.heap[b]? = some (.cells #[.pointer (some ⟨b, 0, none⟩), v] 58 (0, 0)) := by
    rw [hgrow.block b (by simp; omega) (fun e => hne e.symm), Below.heap_alloc _ _ _ hlt]
    exact hbk
  have d0 : w2.cell? ⟨b, 0, none⟩ = some (.pointer (some ⟨b, 0, none⟩)) := by rw [Lib.cell_of_heap hb2]; rfl
  have d1 : w2.cell? ⟨b, 1, none⟩ = some v := by rw [Lib.cell_of_heap hb2]; rfl
  have f1 : w2.frozen? ⟨b, 1, none⟩ = false := Lib.frozen_of_heap hb2 1
  obtain ⟨ao, n', cap, rfl⟩ : ∃ ao n' cap, v' = .slice ao n' cap := by
    rcases hown'.2 with ⟨hv, _⟩ | ⟨g, cap, cur, fz, hv, _⟩
    · exact ⟨_, _, _, hv⟩
    · exact ⟨_, _, _, hv⟩
  go_wp2
  go_ret
  refine ⟨rfl, .inr ?_, ?_, ((hk1.alloc _).grown hgrow (Lib.ownsRowF_kind (hown.alloc _))).setCell ⟨b, 1, none⟩ rfl _⟩
  · rw [byteCells_app]
    exact Lib.BuilderAtF.put hB hb2 (bs' := Lib.byteCells l ++ Lib.byteCells [10]) (by rw [List.length_append, hl]; exact hown') (by decide)
  · exact ((hb1.alloc (by have := hb1.size; omega) _).grown hgrow (by have := hb1.size; simp; omega) (fun k hk => (hown.lt k hk).1)).setCell (p := ⟨b, 1, none⟩) hB _
theorem st_calls (w : World) (B b : Nat) (l : List UInt8) (h : BIs w B b l) (hB : B ≤ w.heap.size) :
    Calls Tryd.prog 32 #[.pointer (some ⟨b, 0, none⟩)] w fun e w' => e = .returned (.string ⟨l.toArray⟩) ∧ Below B w w' := by
  have := Any.Builder_String_any_k Tryd.laysSt extraSt B b l w h hB
  rw [show Tryd.laysSt_ren.f 169 = 32 by kernel_rfl] at this
  exact this.mono fun e w' ⟨h1, h2, h3, h4⟩ => ⟨h1, h3⟩
theorem Oth.block {b : Nat} {w w' : World} (h : Oth b w w') {k : Nat} {cs : Array Value} {t : TypeId} (hk : w.heap[k]? = some (.cells cs t (0, 0))) (hb : k ≠ b) (ht : t ≠ 5) : w'.heap[k]? = some (.cells cs t (0, 0)) :=
  h k _ hk (fun e => hb (Option.some.inj e)) (fun c fz e => by injection e with _ e _; exact ht e)
theorem BIs.fresh (w : World) : BIs (w.alloc (.cells #[.pointer none, .slice none 0 0] 58)) w.heap.size w.heap.size [] := Lib.IsBuilderF.of (Lib.fresh_isBuilder _ _ w)
end Go.Proofs.YtlhnkfheojlghaaDoor.Pr
end
section
namespace Go.Proofs.YtlhnkfheojlghaaDoor.Pr
open Go.RowKit Go.Proofs.YtlhnkfheojlghaaDoorW.PrintWords Go.Proofs.YtlhnkfheojlghaaDoorW.PrintLast Go.Proofs.YtlhnkfheojlghaaDoorW.PrintMore
def nameM (op : Int) : List UInt8 := if isM op = true then (ordersL.getD op.toNat z63).f0.data.toList else [110, 111, 110, 101]
def usesN (op : Int) : ByteArray := if isM op = true then usesM op else ⟨#[]⟩
def opersT (i : S36) : Nat → List UInt8
  | 0 => []
  | j + 1 => opersT i j ++ (32 :: Lib.itoa (operM i j))
def headT (k : Nat) (i : S36) : List UInt8 := Lib.itoa (k : Int) ++ (32 :: nameM i.f0)
def lineT (k : Nat) (i : S36) : List UInt8 := headT k i ++ opersT i (usesN i.f0).size ++ [10]
def linesT (c : List S36) : Nat → List UInt8
  | 0 => []
  | k + 1 => linesT c k ++ lineT k (c.getD k z36)
def funT (k : Nat) : List UInt8 := [102, 117, 110, 99, 116, 105, 111, 110, 32] ++ Lib.itoa (k : Int) ++ [10]
mutual
def textP : S27 → List UInt8
  | ⟨_, _, _, f3, _, f5⟩ => linesT f3 f3.length ++ textL f5 0
def textL : List S27 → Nat → List UInt8
  | [], _ => []
  | q :: l, k => funT k ++ textP q ++ textL l (k + 1)
end
theorem textP_eq (p : S27) : textP p = linesT p.f3 p.f3.length ++ textL p.f5 0 := by cases p; rw [textP]
theorem textL_drop (l : List S27) (k : Nat) (hk : k < l.length) (m : Nat) : textL (l.drop k) m = funT m ++ textP l[k] ++ textL (l.drop (k + 1)) (m + 1) := by
  rw [List.drop_eq_getElem_cons hk, textL]
def i64B (x : Int) : Bool := decide (-9223372036854775808 ≤ x) && decide (x ≤ 9223372036854775807)
mutual
def intsM : S27 → Bool
  | ⟨_, _, _, f3, _, f5⟩ => f3.all (fun i => i64B i.f1 && (i64B i.f2 && i64B i.f3)) && intsL f5
def intsL : List S27 → Bool
  | [] => true
  | p :: l => intsM p && intsL l
end
theorem intsM_eq (p : S27) : intsM p = (p.f3.all (fun i => i64B i.f1 && (i64B i.f2 && i64B i.f3)) && intsL p.f5) := by cases p; rw [intsM]
theorem intsL_mem : ∀ {l : List S27} {p : S27}, intsL l = true → p ∈ l → intsM p = true
  | [], _, _, h => by cases h
  | q :: l, p, h, hp => by
    rw [intsL, Bool.and_eq_true] at h
    rcases List.mem_cons.1 hp with rfl | hp
    · exact h.1
    · exact intsL_mem h.2 hp
theorem ints_code {p : S27} (h : intsM p = true) {i : S36} (hi : i ∈ p.f3) (k : Nat) : -9223372036854775808 ≤ operM i k ∧ operM i k ≤ 9223372036854775807 := by
  rw [intsM_eq, Bool.and_eq_true] at h
  have := List.all_eq_true.1 h.1 i hi
  simp only [i64B, Bool.and_eq_true, decide_eq_true_eq] at this
  unfold operM
  split
  · exact this.1
  · split
    · exact this.2.1
    · exact this.2.2
theorem itoa_f (x : Int) (h : -9223372036854775808 ≤ x ∧ x ≤ 9223372036854775807) : strconv_Itoa.f x = some (itoaOf x) := by unfold strconv_Itoa.f; rw [if_pos h]
theorem of_f (op : Int) : ∃ ct is, prog_of.f op = some (⟨(nameM op).toArray⟩, usesN op, ct, is) := by
  unfold prog_of.f nameM usesN isM
  by_cases h0 : 0 ≤ op
  · rw [if_pos h0, decide_eq_true h0]
    by_cases h1 : op < 38
    · rw [if_pos h1, decide_eq_true h1]
      exact ⟨_, _, rfl⟩
    · rw [if_neg h1, decide_eq_false h1]
      exact ⟨_, _, rfl⟩
  · rw [if_neg h0, decide_eq_false h0]
    exact ⟨_, _, rfl⟩
theorem uses_small2 (op : Int) : (usesN op).size ≤ 3 := by
  unfold usesN
  split
  · exact uses_small _
  · decide
theorem lines_app_le (c : List S36) (k : Nat) : ∀ n, k ≤ n → (linesT c k).length ≤ (linesT c n).length := by
  intro n
  induction n with
  | zero => intro h; have e : k = 0 := Nat.le_zero.1 h; rw [e]; exact Nat.le_refl _
  | succ n ih =>
    intro h
    rcases Nat.lt_or_ge k (n + 1) with h1 | h1
    · have := ih (by omega)
      rw [linesT, List.length_append]
      omega
    · obtain rfl : k = n + 1 := by omega
      exact Nat.le_refl _
theorem opers_app_le (i : S36) (k : Nat) : ∀ n, k ≤ n → (opersT i k).length ≤ (opersT i n).length := by
  intro n
  induction n with
  | zero => intro h; have e : k = 0 := Nat.le_zero.1 h; rw [e]; exact Nat.le_refl _
  | succ n ih =>
    intro h
    rcases Nat.lt_or_ge k (n + 1) with h1 | h1
    · have := ih (by omega)
      rw [opersT, List.length_append]
      omega
    · obtain rfl : k = n + 1 := by omega
      exact Nat.le_refl _
theorem bis_lt {w : World} {B b : Nat} {l : List UInt8} (h : BIs w B b l) : b < w.heap.size := by
  rcases h with h | h
  · exact h.lt
  · exact h.lt
theorem bis_alloc {w : World} {B b : Nat} {l : List UInt8} (h : BIs w B b l) (o : Obj) : BIs (w.alloc o) B b l := Lib.IsBuilderF.alloc h o
theorem bis_below {w w' : World} {B b : Nat} {l : List UInt8} (h : BIs w B b l) (hb : Below w.heap.size w w') : BIs w' B b l := by
  have hlt := bis_lt h
  rcases h with h | h
  · obtain ⟨hB, v, hbk, hown, hne⟩ := h
    exact .inl ⟨hB, v, (hb.block b hlt).trans hbk, hown.kept (grown_of_below hb none) (by cases v.ownBlock <;> simp), hne⟩
  · obtain ⟨hB, v, hbk, hown, hne⟩ := h
    exact .inr ⟨hB, v, (hb.block b hlt).trans hbk, hown.kept (grown_of_below hb none) (by cases v.ownBlock <;> simp), hne⟩
theorem oth_below {b : Nat} {a w w' : World} (h : Oth b a w) (hb : Below w.heap.size w w') : Oth b a w' := by
  intro k o hk h1 h2
  have h3 := h k o hk h1 h2
  exact (hb.block k (Array.getElem?_eq_some_iff.1 h3).1).trans h3
theorem oth_trans {b : Nat} {a c d : World} (h : Oth b a c) (k : Oth b c d) : Oth b a d := Lib.OthersKept.trans h k
theorem below_of_drew {w w' : World} (h : Below w.drew.heap.size w.drew w') : Below w.heap.size w w' := ⟨h.os, h.tape, h.output, h.size, h.block⟩
structure Pin (w0 w wr : World) (b : Nat) (l : List UInt8) (cs : Array Value) : Prop where
  bi : BIs wr w0.heap.size b l
  pb : wr.heap[w.heap.size]? = some (.cells cs 27 (0, 0))
  bw : Below w0.heap.size w wr
  oth : Oth b w wr
theorem Pin.below {w0 w wr w' : World} {b : Nat} {l : List UInt8} {cs : Array Value} (h : Pin w0 w wr b l cs) (hb : Below wr.heap.size wr w') (h0 : w0.heap.size ≤ wr.heap.size) : Pin w0 w w' b l cs :=
  ⟨bis_below h.bi hb, (hb.block _ (lt_of_blk h.pb)).trans h.pb, h.bw.trans (hb.mono h0), oth_below h.oth hb⟩
theorem Pin.write {w0 w wr w' : World} {b : Nat} {l l' : List UInt8} {cs : Array Value} (h : Pin w0 w wr b l cs) (hb : b < w.heap.size) (h1 : BIs w' w0.heap.size b l') (h2 : Below w0.heap.size wr w') (h3 : Oth b wr w') : Pin w0 w w' b l' cs :=
  ⟨h1, h3.block h.pb (by omega) (by decide), h.bw.trans h2, oth_trans h.oth h3⟩
theorem sp_list (x : Int) : ((⟨#[32]⟩ : ByteArray) ++ itoaOf x).data.toList = 32 :: Lib.itoa x := by simp [itoaOf]
theorem fun_list (m : Nat) : ((⟨#[102, 117, 110, 99, 116, 105, 111, 110, 32]⟩ : ByteArray) ++ itoaOf (m : Int) ++ ⟨#[10]⟩).data.toList = funT m := by simp [itoaOf, funT]
theorem ints_protos {p : S27} (h : intsM p = true) : intsL p.f5 = true := by rw [intsM_eq, Bool.and_eq_true] at h; exact h.2
theorem head_list (k : Nat) (i : S36) (u : ByteArray) (hu : u = ⟨(nameM i.f0).toArray⟩) : (itoaOf (k : Int) ++ ⟨#[32]⟩ ++ u).data.toList = headT k i := by
  rw [hu]; simp [headT, itoaOf]
set_option maxRecDepth 100000 in
set_option maxHeartbeats 8000000 in
theorem prints_calls (n : Nat) : ∀ (p : S27), SizeOf.sizeOf p ≤ n → ∀ (w0 w : World) (hb : Below w0.heap.size w0 w) (hG : OrdersLaid w0) (A2 : Option Addr) (c2 : Nat) (A3 : Option Addr) (c3 : Nat) (A4 : Option Addr) (c4 : Nat) (A5 : Option Addr) (c5 : Nat)
    (C3 : Kd.C k36 w0 A3 p.f3.length p.f3) (C5 : Kd.C k27 w0 A5 p.f5.length p.f5) (hi : intsM p = true) (b : Nat) (l : List UInt8) (hbi : BIs w w0.heap.size b l) (hlen : (l ++ textP p).length ≤ 140737488355328),
    Calls Tryd.prog 31 #[.pointer (some ⟨b, 0, none⟩), .agg #[.int .i64 p.f0, .int .i64 p.f1, .slice A2 p.f2.length c2, .slice A3 p.f3.length c3, .slice A4 p.f4.length c4, .slice A5 p.f5.length c5]] w fun e w' => e = .returned (.tuple #[]) ∧ BIs w' w0.heap.size b (l ++ textP p) ∧ Below w0.heap.size w w' ∧ Oth b w w' := by
  induction n with
  | zero => intro p hp; exfalso; obtain ⟨f0, f1, f2, f3, f4, f5⟩ := p; simp at hp
  | succ n ih =>
  intro p hp w0 w hb hG A2 c2 A3 c3 A4 c4 A5 c5 C3 C5 hi b l hbi hlen
  have hbw : b < w.heap.size := bis_lt hbi
  have IH := Aside0.mk ih
  have HP := Aside0.mk hp
  have HB := Aside0.mk hb
  have HG := Aside0.mk hG
  have HC3 := Aside0.mk C3
  have HC5 := Aside0.mk C5
  have HI := Aside0.mk hi
  have n3 : (p.f3.length : Int) ≤ 9223372036854775807 := by have := C3.2.1; omega
  have n5 : (p.f5.length : Int) ≤ 9223372036854775807 := by have := C5.2.1; omega
  have HT := Aside0.mk (textP_eq p)
  rw [HT.out] at hlen
  have hlen2 : l.length + (linesT p.f3 p.f3.length).length + (textL p.f5 0).length ≤ 140737488355328 := by simpa [Nat.add_assoc] using hlen
  have HLEN := Aside0.mk hlen2
  obtain ⟨W1, hW1⟩ : ∃ W1, W1 = w.alloc (.cells #[.int .i64 p.f0, .int .i64 p.f1, .slice A2 p.f2.length c2, .slice A3 p.f3.length c3, .slice A4 p.f4.length c4, .slice A5 p.f5.length c5] 27) := ⟨_, rfl⟩
  have B1 : Aside0 (Below w.heap.size w W1) := ⟨by rw [hW1]; exact (Below.refl w.heap.size w).alloc (Nat.le_refl _) _⟩
  have PB : Aside0 (W1.heap[w.heap.size]? = some (.cells #[.int .i64 p.f0, .int .i64 p.f1, .slice A2 p.f2.length c2, .slice A3 p.f3.length c3, .slice A4 p.f4.length c4, .slice A5 p.f5.length c5] 27 (0, 0))) := ⟨by rw [hW1]; exact heap_alloc_new w _⟩
  have BI1 : Aside0 (BIs W1 w0.heap.size b l) := ⟨by rw [hW1]; exact bis_alloc hbi _⟩
  have B01 : Aside0 (Below w0.heap.size w0 W1) := ⟨hb.trans (B1.out.mono hb.size)⟩
  have B01x : Aside0 (Below w0.heap.size w W1) := ⟨B1.out.mono hb.size⟩
  have O1 : Aside0 (Oth b w W1) := ⟨by rw [hW1]; exact (Lib.OthersKept.refl _ _ w).alloc _⟩
  have p3 : W1.cell? ⟨w.heap.size, 3, none⟩ = some (.slice A3 p.f3.length c3) := row_at PB.out 3 _ rfl
  have p5 : W1.cell? ⟨w.heap.size, 5, none⟩ = some (.slice A5 p.f5.length c5) := row_at PB.out 5 _ rfl
  clear hb hG C3 C5 hi hbi hlen ih hp hlen2
  go_enter Tryd.func31, Tryd.ntmps31
  go_wp2_with fail
  rw [← hW1]
  clear hW1
  obtain ⟨cs, hcs⟩ : ∃ cs : Array Value, cs = #[.int .i64 p.f0, .int .i64 p.f1, .slice A2 p.f2.length c2, .slice A3 p.f3.length c3, .slice A4 p.f4.length c4, .slice A5 p.f5.length c5] := ⟨_, rfl⟩
  have HCS := Aside0.mk hcs
  rw [← hcs] at PB
  have P1 : Aside0 (Pin w0 w W1 b l cs) := ⟨BI1.out, PB.out, B01x.out, O1.out⟩
  clear hcs
  have hsz0 : w0.heap.size ≤ w.heap.size := HB.out.size
  clear PB BI1 O1 B1 B01 p3
  go_loopw [15] (fun s wr => ∃ k : Nat, s = .int .i64 k ∧ k ≤ p.f3.length ∧ Aside0 (Pin w0 w wr b (l ++ linesT p.f3 k) cs)) (fun s _ => p.f3.length - (intOf s).toNat)
  case atStart => exact ⟨0, rfl, Nat.zero_le _, ⟨by rw [linesT, List.append_nil]; exact P1.out⟩⟩
  case round =>
    obtain ⟨k, rfl, hk, hP⟩ := hrel
    have hszr : w0.heap.size ≤ wr.heap.size := Nat.le_trans hsz0 hP.out.bw.size
    have B0r : Aside0 (Below w0.heap.size w0 wr) := ⟨HB.out.trans hP.out.bw⟩
    by_cases hlt : k < p.f3.length
    · have i1 : (k : Int) < (p.f3.length : Int) := by omega
      obtain ⟨ad, rfl, x0, x1, x2, x3⟩ := at_T36 (Kd.C_below HC3.out B0r.out) (k : Int) (by omega) (by omega)
      have hx : rd_T36 p.f3 (k : Int) = p.f3[k] := by simp [rd_T36, hlt]
      have HM := Aside0.mk (show p.f3[k] ∈ p.f3 from List.getElem_mem _)
      have HL1 := Aside0.mk (show linesT p.f3 (k + 1) = linesT p.f3 k ++ lineT k p.f3[k] by rw [linesT, List.getD_eq_getElem?_getD, List.getElem?_eq_getElem hlt]; rfl)
      have HL2 := Aside0.mk (lines_app_le p.f3 (k + 1) p.f3.length hlt)
      rw [hx] at x0 x1 x2 x3
      rw [Int.toNat_natCast] at x0 x1 x2 x3
      generalize p.f3[k] = i at x0 x1 x2 x3 HM HL1
      obtain ⟨ct, is, hof⟩ := of_f i.f0
      have HOF := Aside0.mk hof
      obtain ⟨nm, hnm⟩ : ∃ nm : ByteArray, nm = ⟨(nameM i.f0).toArray⟩ := ⟨_, rfl⟩
      obtain ⟨u, hu⟩ : ∃ u, u = usesN i.f0 := ⟨_, rfl⟩
      rw [← hnm, ← hu] at HOF
      have hu3 : u.size ≤ 3 := by rw [hu]; exact uses_small2 _
      have HNM := Aside0.mk hnm
      have HU := Aside0.mk hu
      have hline : (lineT k i).length = (Lib.itoa (k : Int)).length + 1 + nm.size + (opersT i u.size).length + 1 := by
        have hns : nm.size = (nameM i.f0).length := by rw [hnm]; simp [ByteArray.size]
        unfold lineT headT
        rw [List.length_append, List.length_append, List.length_append, List.length_cons, List.length_singleton, hns, hu]
        omega
      have HSZ : Aside0 (l.length + (linesT p.f3 k).length + ((Lib.itoa (k : Int)).length + 1 + nm.size + (opersT i u.size).length + 1) ≤ 140737488355328) := ⟨by
        have h1 := HL2.out
        rw [HL1.out, List.length_append, hline] at h1
        have := HLEN.out
        omega⟩
      clear hof hnm hu hline hx
      go_wp2_with (first | (go_at_call 36; obtain ⟨W2, hW2⟩ : ∃ W2, W2 = wr.alloc (.cells #[.int .i64 i.f0, .int .i64 i.f1, .int .i64 i.f2, .int .i64 i.f3] 36) := ⟨_, rfl⟩; rw [← hW2]; have BA : Below wr.heap.size wr W2 := (by rw [hW2]; exact (Below.refl wr.heap.size wr).alloc (Nat.le_refl _) _); have IB2 := Aside0.mk (heap_alloc_new wr (.cells #[.int .i64 i.f0, .int .i64 i.f1, .int .i64 i.f2, .int .i64 i.f3] 36)); rw [← hW2] at IB2; have P2 := Aside0.mk (hP.out.below BA hszr); have G2 := Aside0.mk (globBelow HG.out (B0r.out.trans (BA.mono hszr))); clear hW2; refine (prog_of.calls _ _ _ _ _ _ G2.out HOF.out).mono ?_; rintro e w3 ⟨rfl, hb3⟩; have B3 := Aside0.mk (hb3.alloc hb3.size (.cells #[.string nm, .string u, .int .i64 ct] 63)); have P3 := Aside0.mk (P2.out.below B3.out (Nat.le_trans hszr BA.size)); have IB3 := Aside0.mk ((B3.out.block wr.heap.size (lt_of_blk IB2.out)).trans IB2.out); have OB3 := Aside0.mk (heap_alloc_new w3 (.cells #[.string nm, .string u, .int .i64 ct] 63)); have y0 := row_at IB2.out 0 (.int .i64 i.f0) rfl; have n0 := row_at OB3.out 0 (.string nm) rfl; have hw3 : w.heap.size ≤ w3.heap.size := Nat.le_trans P2.out.bw.size hb3.size; clear hb3 BA))
      obtain ⟨W3, hW3⟩ : ∃ W3, W3 = w3.alloc (.cells #[.string nm, .string u, .int .i64 ct] 63) := ⟨_, rfl⟩
      rw [← hW3] at P3 IB3 OB3 ⊢
      have hs3 : w3.heap.size < W3.heap.size := by rw [hW3]; simp
      clear hW3 y0 n0
      have B03 : Aside0 (Below w0.heap.size w0 W3) := ⟨HB.out.trans P3.out.bw⟩
      have hsz3 : w0.heap.size ≤ W3.heap.size := Nat.le_trans hsz0 P3.out.bw.size
      have hbw3 : b < W3.heap.size := Nat.lt_of_lt_of_le hbw P3.out.bw.size
      have o0 := row_at OB3.out 0 (.string nm) rfl
      have hir := Aside0.mk (show -9223372036854775808 ≤ (k : Int) ∧ (k : Int) ≤ 9223372036854775807 by omega)
      obtain ⟨tk, htk⟩ : ∃ tk, tk = itoaOf (k : Int) := ⟨_, rfl⟩
      have HTK := Aside0.mk htk
      have hts : tk.size = (Lib.itoa (k : Int)).length := by rw [htk]; simp [itoaOf, ByteArray.size]
      have hit : Aside0 (strconv_Itoa.f (k : Int) = some tk) := ⟨by rw [itoa_f _ hir.out, htk]⟩
      have z1 : tk.size + 1 ≤ 9223372036854775807 := by have := HSZ.out; omega
      have z2 : tk.size + 1 + nm.size ≤ 9223372036854775807 := by have := HSZ.out; omega
      have z1a := eq_true z1
      have z1b : decide (tk.size + 1 ≤ 9223372036854775807) = true := decide_eq_true z1
      have z1c : (9223372036854775807 < tk.size + 1) = False := eq_false (Nat.not_lt.2 z1)
      have z2' : (tk ++ (⟨#[32]⟩ : ByteArray)).size + nm.size ≤ 9223372036854775807 := by rw [ByteArray.size_append]; exact z2
      have z2a := eq_true z2'
      have z2b : decide ((tk ++ (⟨#[32]⟩ : ByteArray)).size + nm.size ≤ 9223372036854775807) = true := decide_eq_true z2'
      have z2c : (9223372036854775807 < (tk ++ (⟨#[32]⟩ : ByteArray)).size + nm.size) = False := eq_false (Nat.not_lt.2 z2')
      have z2d := eq_true z2
      have z2e : decide (tk.size + 1 + nm.size ≤ 9223372036854775807) = true := decide_eq_true z2
      have z2f : (9223372036854775807 < tk.size + 1 + nm.size) = False := eq_false (Nat.not_lt.2 z2)
      have HTS := Aside0.mk hts
      clear htk hts
      go_region_held3 (fun w' => w'.cell? ⟨w3.heap.size, 0, none⟩ = some (.string nm)) (go_keep)
        (first
          | (go_at_call 45; refine (strconv_Itoa.calls _ _ W3.drew (globBelow HG.out B03.out.drew) hit.out).mono ?_; rintro e w4 ⟨rfl, hb4⟩; have B4 := Aside0.mk (below_of_drew hb4); have q0 := pw_cell_below (below_of_drew hb4) o0; clear hb4)
          | (go_at_call 44; refine (ws_calls w4 w0.heap.size b (l ++ linesT p.f3 k) _ (bis_below P3.out.bi B4.out) (by have h1 := HSZ.out; have h2 := HTS.out; rw [ByteArray.size_append, ByteArray.size_append, show (⟨#[32]⟩ : ByteArray).size = 1 from rfl, List.length_append]; omega) (Nat.le_trans hsz3 B4.out.size)).mono ?_; rintro e w5 ⟨rfl, hbi5, hb5, ho5⟩; have BI5 := Aside0.mk hbi5; have BW5 := Aside0.mk hb5; have OT5 := Aside0.mk ho5; have r0 : w5.cell? ⟨w3.heap.size, 0, none⟩ = some (.string nm) := row_at (ho5.block ((B4.out.block w3.heap.size hs3).trans OB3.out) (by omega) (by decide)) 0 _ rfl; clear hbi5 hb5 ho5))
      all_goals
        have P5 : Aside0 (Pin w0 w w5 b (l ++ linesT p.f3 k ++ headT k i) cs) := ⟨(P3.out.below B4.out hsz3).write hbw (show BIs w5 w0.heap.size b (l ++ linesT p.f3 k ++ headT k i) by rw [← head_list k i nm HNM.out, ← HTK.out]; exact BI5.out) BW5.out OT5.out⟩
        have IB5 := Aside0.mk (OT5.out.block ((B4.out.block wr.heap.size (lt_of_blk IB3.out)).trans IB3.out) (by have := hP.out.bw.size; omega) (by decide))
        have OB5 := Aside0.mk (OT5.out.block ((B4.out.block w3.heap.size hs3).trans OB3.out) (by omega) (by decide))
        have hsz5 : w0.heap.size ≤ w5.heap.size := Nat.le_trans hsz0 P5.out.bw.size
        have s0 := row_at IB5.out 0 (.int .i64 i.f0) rfl
        have s1 := row_at IB5.out 1 (.int .i64 i.f1) rfl
        have s2 := row_at IB5.out 2 (.int .i64 i.f2) rfl
        have s3 := row_at IB5.out 3 (.int .i64 i.f3) rfl
        clear BI5 BW5 OT5 r0 q0 o0 z1 z1a z1b z1c z2 z2' z2a z2b z2c z2d z2e z2f HTS HTK hit hir B4 IB3 OB3 P3 hs3 hw3 hsz3 hbw3 B03 x0 x1 x2 x3
        go_wp2_with (first | (go_at_call 46; refine (operands_calls _ i).mono ?_; rintro e w6 ⟨rfl, hb6⟩; have h6s : w5.heap.size ≤ w6.heap.size := hb6.size; have B6 := Aside0.mk (hb6.alloc hb6.size (.cells #[.int .i64 i.f1, .int .i64 i.f2, .int .i64 i.f3] 82)); have P6 := Aside0.mk (P5.out.below B6.out hsz5); have OB6 := Aside0.mk ((B6.out.block w3.heap.size (lt_of_blk OB5.out)).trans OB5.out); have XB6 := Aside0.mk (heap_alloc_new w6 (.cells #[.int .i64 i.f1, .int .i64 i.f2, .int .i64 i.f3] 82)); have o1 := row_at OB6.out 1 (.string u) rfl; clear hb6))
        obtain ⟨W6, hW6⟩ : ∃ W6, W6 = w6.alloc (.cells #[.int .i64 i.f1, .int .i64 i.f2, .int .i64 i.f3] 82) := ⟨_, rfl⟩
        rw [← hW6] at P6 XB6 ⊢
        clear hW6 o1 s0 s1 s2 s3
        obtain ⟨wo, rfl⟩ : ∃ wo : World, wo = wr := ⟨_, rfl⟩
        go_loopw [39] (fun s wr => ∃ j : Nat, s = .int .i64 j ∧ j ≤ u.size ∧ Aside0 (Pin w0 w wr b (l ++ linesT p.f3 k ++ headT k i ++ opersT i j) cs) ∧ Aside0 (wr.heap[w6.heap.size]? = some (.cells #[.int .i64 i.f1, .int .i64 i.f2, .int .i64 i.f3] 82 (0, 0)))) (fun s _ => u.size - (intOf s).toNat)
        case atStart => exact ⟨0, rfl, Nat.zero_le _, ⟨by rw [opersT, List.append_nil]; exact P6.out⟩, XB6⟩
        case round =>
          obtain ⟨j, rfl, hj, hQ, hX⟩ := hrel
          have hszq : w0.heap.size ≤ wr.heap.size := Nat.le_trans hsz0 hQ.out.bw.size
          have B0q : Aside0 (Below w0.heap.size w0 wr) := ⟨HB.out.trans hQ.out.bw⟩
          by_cases hjt : j < u.size
          · have i2 : (j : Int) < (u.size : Int) := by omega
            have z3 : ((j : Int) < 3) = True := eq_true (by omega)
            have z0 : (0 ≤ (j : Int)) = True := eq_true (by omega)
            have hxj : wr.cell? ⟨w6.heap.size, j, none⟩ = some (.int .i64 (operM i j)) := by
              have h3 : j < 3 := by omega
              match j, h3 with
              | 0, _ => exact row_at hX.out 0 _ rfl
              | 1, _ => exact row_at hX.out 1 _ rfl
              | 2, _ => exact row_at hX.out 2 _ rfl
            have hir := Aside0.mk (ints_code HI.out HM.out j)
            have HO1 := Aside0.mk (show opersT i (j + 1) = opersT i j ++ (32 :: Lib.itoa (operM i j)) from rfl)
            have HO2 := Aside0.mk (opers_app_le i (j + 1) u.size hjt)
            generalize operM i j = x at hxj hir HO1
            obtain ⟨tx, htx⟩ : ∃ tx, tx = itoaOf x := ⟨_, rfl⟩
            have HTX := Aside0.mk htx
            have hts : tx.size = (Lib.itoa x).length := by rw [htx]; simp [itoaOf, ByteArray.size]
            have hit : Aside0 (strconv_Itoa.f x = some tx) := ⟨by rw [itoa_f _ hir.out, htx]⟩
            have hhd : (headT k i).length = (Lib.itoa (k : Int)).length + 1 + nm.size := by
              have hns : nm.size = (nameM i.f0).length := by rw [HNM.out]; simp [ByteArray.size]
              unfold headT
              rw [List.length_append, List.length_cons, hns]
              omega
            have HLE : Aside0 ((l ++ linesT p.f3 k ++ headT k i ++ opersT i j).length + (1 + tx.size) ≤ 140737488355328) := ⟨by
              have h1 := HO2.out
              have h2 := HSZ.out
              rw [HO1.out, List.length_append, List.length_cons, ← hts] at h1
              rw [List.length_append, List.length_append, List.length_append, hhd]
              omega⟩
            have z1 : 1 + tx.size ≤ 9223372036854775807 := by have := HLE.out; omega
            have z1a := eq_true z1
            have z1b : decide (1 + tx.size ≤ 9223372036854775807) = true := decide_eq_true z1
            have z1c : (9223372036854775807 < 1 + tx.size) = False := eq_false (Nat.not_lt.2 z1)
            clear htx hts hhd
            go_wp2_with (first | (go_at_call 45; refine (strconv_Itoa.calls _ _ wr (globBelow HG.out B0q.out) hit.out).mono ?_; rintro e w7 ⟨rfl, hb7⟩; have B7 := Aside0.mk hb7; clear hb7) | (go_at_call 44; refine (ws_calls w7 w0.heap.size b _ _ (bis_below hQ.out.bi B7.out) (by rw [ByteArray.size_append, show (⟨#[32]⟩ : ByteArray).size = 1 from rfl]; exact HLE.out) (Nat.le_trans hszq B7.out.size)).mono ?_; rintro e w8 ⟨rfl, hbi8, hb8, ho8⟩; have BI8 := Aside0.mk hbi8; have BW8 := Aside0.mk hb8; have OT8 := Aside0.mk ho8; clear hbi8 hb8 ho8))
            go_round
            case rel => exact ⟨j + 1, by go_num, by omega, ⟨(hQ.out.below B7.out hszq).write hbw (show BIs w8 w0.heap.size b (l ++ linesT p.f3 k ++ headT k i ++ opersT i (j + 1)) by rw [HO1.out, ← List.append_assoc, ← sp_list x, ← HTX.out]; exact BI8.out) BW8.out OT8.out⟩, ⟨OT8.out.block ((B7.out.block w6.heap.size (lt_of_blk hX.out)).trans hX.out) (by have := P5.out.bw.size; omega) (by decide)⟩⟩
            case measure => simp [intOf]; omega
          · obtain rfl : j = u.size := by omega
            have i2 : ¬ (u.size : Int) < (u.size : Int) := by omega
            have hhd : (headT k i).length = (Lib.itoa (k : Int)).length + 1 + nm.size := by
              have hns : nm.size = (nameM i.f0).length := by rw [HNM.out]; simp [ByteArray.size]
              unfold headT
              rw [List.length_append, List.length_cons, hns]
              omega
            have HLE : Aside0 ((l ++ linesT p.f3 k ++ headT k i ++ opersT i u.size).length + 1 ≤ 140737488355328) := ⟨by
              have h2 := HSZ.out
              rw [List.length_append, List.length_append, List.length_append, hhd]
              omega⟩
            clear hhd
            go_wp2_with (go_at_call 47; refine (wb_calls wr w0.heap.size b _ hQ.out.bi HLE.out hszq).mono ?_; rintro e w9 ⟨rfl, hbi9, hb9, ho9⟩; have BI9 := Aside0.mk hbi9; have BW9 := Aside0.mk hb9; have OT9 := Aside0.mk ho9; clear hbi9 hb9 ho9)
            go_round
            case rel => exact ⟨k + 1, by go_num, by omega, ⟨hQ.out.write hbw (show BIs w9 w0.heap.size b (l ++ linesT p.f3 (k + 1)) by rw [HL1.out, lineT, ← HU.out]; have := BI9.out; simp only [List.append_assoc] at this ⊢; exact this) BW9.out OT9.out⟩⟩
            case measure => simp [intOf]; omega
    · obtain rfl : k = p.f3.length := by omega
      have i1 : ¬ (p.f3.length : Int) < (p.f3.length : Int) := by omega
      have hpb := hP.out.pb
      rw [HCS.out] at hpb
      have p5 : wr.cell? ⟨w.heap.size, 5, none⟩ = some (.slice A5 p.f5.length c5) := row_at hpb 5 _ rfl
      clear hpb
      go_wp2_with fail
      clear p5
      obtain ⟨wo, rfl⟩ : ∃ wo : World, wo = wr := ⟨_, rfl⟩
      go_loopw [56] (fun s wr => ∃ (m : Nat) (t : List UInt8), s = .int .i64 m ∧ m ≤ p.f5.length ∧ Aside0 (Pin w0 w wr b t cs) ∧ Aside0 (t ++ textL (p.f5.drop m) m = l ++ textP p)) (fun s _ => p.f5.length - (intOf s).toNat)
      case atStart => exact ⟨0, l ++ linesT p.f3 p.f3.length, rfl, Nat.zero_le _, hP, ⟨by rw [List.drop_zero, HT.out, List.append_assoc]⟩⟩
      case round =>
        obtain ⟨m, t, rfl, hm, hQ, hE⟩ := hrel
        have hszq : w0.heap.size ≤ wr.heap.size := Nat.le_trans hsz0 hQ.out.bw.size
        have B0q : Aside0 (Below w0.heap.size w0 wr) := ⟨HB.out.trans hQ.out.bw⟩
        by_cases hmt : m < p.f5.length
        · have i2 : (m : Int) < (p.f5.length : Int) := by omega
          obtain ⟨ad, D2, d2, D3, d3, D4, d4, D5, d5, rfl, x0, x1, x2, x3, x4, x5, e2, g2, e3, g3, e4, g4, e5, g5⟩ := at_T27 HC5.out (m : Int) (by omega) (by omega)
          have hx : rd_T27 p.f5 (m : Int) = p.f5[m] := by simp [rd_T27, hmt]
          have HQM := Aside0.mk (show p.f5[m] ∈ p.f5 from List.getElem_mem _)
          have HD := Aside0.mk (textL_drop p.f5 m hmt m)
          rw [hx] at x0 x1 x2 x3 x4 x5 e2 g2 e3 g3 e4 g4 e5 g5
          rw [Int.toNat_natCast] at x0 x1 x2 x3 x4 x5
          generalize p.f5[m] = q at x0 x1 x2 x3 x4 x5 e2 g2 e3 g3 e4 g4 e5 g5 HQM HD
          have G := Aside0.mk (And.intro g3 g5)
          replace x0 := pw_cell_below B0q.out x0
          replace x1 := pw_cell_below B0q.out x1
          replace x2 := pw_cell_below B0q.out x2
          replace x3 := pw_cell_below B0q.out x3
          replace x4 := pw_cell_below B0q.out x4
          replace x5 := pw_cell_below B0q.out x5
          clear g2 g3 g4 g5 e2 e3 e4 e5 hx
          have HTOT : Aside0 (t.length + (funT m).length + (textP q).length ≤ 140737488355328) := ⟨by
            have h1 := congrArg List.length hE.out
            rw [HD.out, HT.out] at h1
            simp only [List.length_append] at h1
            have := HLEN.out
            omega⟩
          have hir := Aside0.mk (show -9223372036854775808 ≤ (m : Int) ∧ (m : Int) ≤ 9223372036854775807 by omega)
          obtain ⟨tx, htx⟩ : ∃ tx, tx = itoaOf (m : Int) := ⟨_, rfl⟩
          have HTX := Aside0.mk htx
          have hts : tx.size = (Lib.itoa (m : Int)).length := by rw [htx]; simp [itoaOf, ByteArray.size]
          have hit : Aside0 (strconv_Itoa.f (m : Int) = some tx) := ⟨by rw [itoa_f _ hir.out, htx]⟩
          have hfl : (funT m).length = 9 + tx.size + 1 := by rw [hts]; simp [funT]; omega
          have HFL := Aside0.mk hfl
          have z1 : 9 + tx.size ≤ 9223372036854775807 := by have := HTOT.out; omega
          have z1a := eq_true z1
          have z1b : decide (9 + tx.size ≤ 9223372036854775807) = true := decide_eq_true z1
          have z1c : (9223372036854775807 < 9 + tx.size) = False := eq_false (Nat.not_lt.2 z1)
          have z2 : 9 + tx.size + 1 ≤ 9223372036854775807 := by have := HTOT.out; omega
          have z2a := eq_true z2
          have z2b : decide (9 + tx.size + 1 ≤ 9223372036854775807) = true := decide_eq_true z2
          have z2c : (9223372036854775807 < 9 + tx.size + 1) = False := eq_false (Nat.not_lt.2 z2)
          clear htx hts hfl
          go_wp2_with (first | (go_at_call 45; obtain ⟨W2, hW2⟩ : ∃ W2, W2 = wr.alloc (.cells #[.int .i64 q.f0, .int .i64 q.f1, .slice D2 q.f2.length d2, .slice D3 q.f3.length d3, .slice D4 q.f4.length d4, .slice D5 q.f5.length d5] 27) := ⟨_, rfl⟩; rw [← hW2]; have BA : Below wr.heap.size wr W2 := (by rw [hW2]; exact (Below.refl wr.heap.size wr).alloc (Nat.le_refl _) _); have QB2 := Aside0.mk (heap_alloc_new wr (.cells #[.int .i64 q.f0, .int .i64 q.f1, .slice D2 q.f2.length d2, .slice D3 q.f3.length d3, .slice D4 q.f4.length d4, .slice D5 q.f5.length d5] 27)); rw [← hW2] at QB2; have P2 := Aside0.mk (hQ.out.below BA hszq); have hsz2 : w0.heap.size ≤ W2.heap.size := Nat.le_trans hszq BA.size; have G2 := Aside0.mk (globBelow HG.out (B0q.out.trans (BA.mono hszq))); clear hW2 BA; refine (strconv_Itoa.calls _ _ W2 G2.out hit.out).mono ?_; rintro e w7 ⟨rfl, hb7⟩; have B7 := Aside0.mk hb7; clear hb7) | (go_at_call 44; refine (ws_calls w7 w0.heap.size b t _ (bis_below P2.out.bi B7.out) (by have := HTOT.out; have := HFL.out; rw [ByteArray.size_append, ByteArray.size_append, show (⟨#[102, 117, 110, 99, 116, 105, 111, 110, 32]⟩ : ByteArray).size = 9 from rfl, show (⟨#[10]⟩ : ByteArray).size = 1 from rfl]; omega) (Nat.le_trans hsz2 B7.out.size)).mono ?_; rintro e w8 ⟨rfl, hbi8, hb8, ho8⟩; have BI8 := Aside0.mk hbi8; have P8 : Aside0 (Pin w0 w w8 b (t ++ funT m) cs) := ⟨(P2.out.below B7.out hsz2).write hbw (show BIs w8 w0.heap.size b (t ++ funT m) by rw [← fun_list m, ← HTX.out]; exact hbi8) hb8 ho8⟩; have QB8 := ho8.block ((B7.out.block wr.heap.size (lt_of_blk QB2.out)).trans QB2.out) (by have := hQ.out.bw.size; omega) (by decide); have v0 := row_at QB8 0 (.int .i64 q.f0) rfl; have v1 := row_at QB8 1 (.int .i64 q.f1) rfl; have v2 := row_at QB8 2 (.slice D2 q.f2.length d2) rfl; have v3 := row_at QB8 3 (.slice D3 q.f3.length d3) rfl; have v4 := row_at QB8 4 (.slice D4 q.f4.length d4) rfl; have v5 := row_at QB8 5 (.slice D5 q.f5.length d5) rfl; clear hbi8 hb8 ho8 QB8) | (go_at_call 31; refine (IH.out q (by have := sizeOf_mem HQM.out; have := HP.out; omega) w0 w8 (HB.out.trans P8.out.bw) HG.out D2 d2 D3 d3 D4 d4 D5 d5 G.out.1 G.out.2 (intsL_mem (ints_protos HI.out) HQM.out) b (t ++ funT m) P8.out.bi (by rw [List.length_append, List.length_append]; exact HTOT.out)).mono ?_; rintro e w9 ⟨rfl, hbi9, hb9, ho9⟩; have BI9 := Aside0.mk hbi9; have BW9 := Aside0.mk hb9; have OT9 := Aside0.mk ho9; clear hbi9 hb9 ho9))
          go_round
          case rel => exact ⟨m + 1, t ++ funT m ++ textP q, by go_num, by omega, ⟨P8.out.write hbw BI9.out BW9.out OT9.out⟩, ⟨by rw [← hE.out, HD.out]; simp only [List.append_assoc]⟩⟩
          case measure => simp [intOf]; omega
        · obtain rfl : m = p.f5.length := by omega
          have i2 : ¬ (p.f5.length : Int) < (p.f5.length : Int) := by omega
          have HF : Aside0 (t = l ++ textP p) := ⟨by rw [← hE.out, List.drop_length, textL, List.append_nil]⟩
          go_wp2_with fail
          go_end0
          exact ⟨rfl, by rw [← HF.out]; exact hQ.out.bi, hQ.out.bw, hQ.out.oth⟩
def prog_Print.f (a0_0 : Int) (a0_1 : Int) (l0_2 : List S94) (l0_3 : List S36) (l0_4 : List S98) (l0_5 : List S27) : Option ByteArray := if intsM ⟨a0_0, a0_1, l0_2, l0_3, l0_4, l0_5⟩ = true ∧ (textP ⟨a0_0, a0_1, l0_2, l0_3, l0_4, l0_5⟩).length ≤ 140737488355328 then some ⟨(textP ⟨a0_0, a0_1, l0_2, l0_3, l0_4, l0_5⟩).toArray⟩ else none
set_option maxRecDepth 100000 in
set_option maxHeartbeats 2000000 in
theorem prog_Print.calls (a0_0 : Int) (a0_1 : Int) (A0_2 : Option Addr) (c0_2 : Nat) (l0_2 : List S94) (A0_3 : Option Addr) (c0_3 : Nat) (l0_3 : List S36) (A0_4 : Option Addr) (c0_4 : Nat) (l0_4 : List S98) (A0_5 : Option Addr) (c0_5 : Nat) (l0_5 : List S27) (r : ByteArray) (w : World)
    (hr0_2 : Kd.C k94 w A0_2 l0_2.length l0_2) (hc0_2 : l0_2.length ≤ c0_2) (hr0_3 : Kd.C k36 w A0_3 l0_3.length l0_3) (hc0_3 : l0_3.length ≤ c0_3) (hr0_4 : Kd.C k98 w A0_4 l0_4.length l0_4) (hc0_4 : l0_4.length ≤ c0_4) (hr0_5 : Kd.C k27 w A0_5 l0_5.length l0_5) (hc0_5 : l0_5.length ≤ c0_5) (hG : OrdersLaid w) (h : prog_Print.f a0_0 a0_1 l0_2 l0_3 l0_4 l0_5 = some r) :
    Calls Tryd.prog 13 #[.agg #[.int .i64 a0_0, .int .i64 a0_1, .slice A0_2 l0_2.length c0_2, .slice A0_3 l0_3.length c0_3, .slice A0_4 l0_4.length c0_4, .slice A0_5 l0_5.length c0_5]] w fun e w' => e = .returned (.string r) ∧ Below w.heap.size w w' := by
  unfold prog_Print.f at h
  split at h
  · rename_i hc
    obtain rfl := Option.some.inj h
    obtain ⟨W1, hW1⟩ : ∃ W1, W1 = w.alloc (.cells #[.int .i64 a0_0, .int .i64 a0_1, .slice A0_2 l0_2.length c0_2, .slice A0_3 l0_3.length c0_3, .slice A0_4 l0_4.length c0_4, .slice A0_5 l0_5.length c0_5] 27) := ⟨_, rfl⟩
    have B1 : Below w.heap.size w W1 := by rw [hW1]; exact (Below.refl w.heap.size w).alloc (Nat.le_refl _) _
    have hs1 : W1.heap.size = w.heap.size + 1 := by rw [hW1]; simp
    have PB1 : W1.heap[w.heap.size]? = some (.cells #[.int .i64 a0_0, .int .i64 a0_1, .slice A0_2 l0_2.length c0_2, .slice A0_3 l0_3.length c0_3, .slice A0_4 l0_4.length c0_4, .slice A0_5 l0_5.length c0_5] 27 (0, 0)) := by rw [hW1]; exact heap_alloc_new w _
    obtain ⟨W2, hW2⟩ : ∃ W2, W2 = W1.alloc (.cells #[.pointer none, .slice none 0 0] 58) := ⟨_, rfl⟩
    have B2 : Below W1.heap.size W1 W2 := by rw [hW2]; exact (Below.refl W1.heap.size W1).alloc (Nat.le_refl _) _
    have BI2 : BIs W2 W1.heap.size W1.heap.size [] := by rw [hW2]; exact BIs.fresh W1
    have HF := Aside0.mk (prints_calls _ ⟨a0_0, a0_1, l0_2, l0_3, l0_4, l0_5⟩ (Nat.le_refl _) W1 W2 B2 (globBelow hG B1) A0_2 c0_2 A0_3 c0_3 A0_4 c0_4 A0_5 c0_5 (Kd.C_below hr0_3 B1) (Kd.C_below hr0_5 B1) hc.1 W1.heap.size [] BI2 (by rw [List.nil_append]; exact hc.2))
    have HB1 := Aside0.mk B1
    have HB2 := Aside0.mk B2
    have PB2 := (B2.block w.heap.size (by omega)).trans PB1
    have k0 := row_at PB2 0 (.int .i64 a0_0) rfl
    have k1 := row_at PB2 1 (.int .i64 a0_1) rfl
    have k2 := row_at PB2 2 (.slice A0_2 l0_2.length c0_2) rfl
    have k3 := row_at PB2 3 (.slice A0_3 l0_3.length c0_3) rfl
    have k4 := row_at PB2 4 (.slice A0_4 l0_4.length c0_4) rfl
    have k5 := row_at PB2 5 (.slice A0_5 l0_5.length c0_5) rfl
    rw [hW2] at k0 k1 k2 k3 k4 k5
    rw [hW1] at k0 k1 k2 k3 k4 k5
    have HS1 := Aside0.mk hs1
    clear hr0_2 hr0_3 hr0_4 hr0_5 hc0_2 hc0_3 hc0_4 hc0_5 hG h hc B1 B2 BI2 PB1 PB2
    go_enter Tryd.func13, Tryd.ntmps13
    go_wp2_with (first
      | (go_at_call 31; rw [← hW1, ← hW2]; rw [hs1] at HF; refine HF.out.mono ?_; rintro e w3 ⟨rfl, hbi, hbw, hot⟩; rw [List.nil_append] at hbi; have BI3 := Aside0.mk hbi; have BW3 := Aside0.mk hbw; clear hbi hbw hot)
      | (go_at_call 32; refine (st_calls w3 _ _ _ BI3.out (by have := BW3.out.size; have := HB2.out.size; omega)).mono ?_; rintro e w4 ⟨rfl, hb4⟩; have B4 := Aside0.mk hb4; clear hb4))
    go_ret
    exact ⟨rfl, HB1.out.trans ((HB2.out.mono (by have := HS1.out; omega)).trans ((BW3.out.trans B4.out).mono (by omega)))⟩
  · cases h
end Go.Proofs.YtlhnkfheojlghaaDoor.Pr
end
section
namespace Go.Proofs.YtlhnkfheojlghaaDoor.Pr
open Go.RowKit Go.Proofs.YtlhnkfheojlghaaDoorW.PrintWords Go.Proofs.YtlhnkfheojlghaaDoorW.PrintLast Go.Proofs.YtlhnkfheojlghaaDoorW.PrintMore
attribute [local go_sem] max2_int min2_int max_two min_two max_three min_three max_four min_four
def minstrellaw13_least.f  : Option (Int × Int × (List (S94)) × (List (S36)) × (List (S98)) × (List (S27))) := some (0, 0, ([] : List (S94)), (([(⟨34, 0, 0, 0⟩ : S36)] : List (S36))), ([] : List (S98)), ([] : List (S27)))
set_option maxHeartbeats 8000000 in
set_option maxRecDepth 100000 in
theorem minstrellaw13_least.calls  (r1 : Int) (r2 : Int) (r3 : List (S94)) (r4 : List (S36)) (r5 : List (S98)) (r6 : List (S27)) (w : World) (h : minstrellaw13_least.f  = some (r1, r2, r3, r4, r5, r6)) :
  Calls Tryd.prog 28 #[] w fun e w' => ∃ v2_ v3_ v4_ v5_ : Value, e = .returned (.agg #[.int .i64 r1, .int .i64 r2, v2_, v3_, v4_, v5_]) ∧ Kd.R k94 94 w' w.heap.size (fun _ => True) v2_ r3 ∧ Kd.R k36 36 w' w.heap.size (fun _ => True) v3_ r4 ∧ Kd.R k98 98 w' w.heap.size (fun _ => True) v4_ r5 ∧ Kd.R k27 27 w' w.heap.size (fun k_ => some k_ ≠ (v2_ : Value).ownBlock ∧ some k_ ≠ (v3_ : Value).ownBlock ∧ some k_ ≠ (v4_ : Value).ownBlock) v5_ r6 ∧ Below w.heap.size w w' := by
 have hu27 := Tryd.underlying27
 have hu36 := Tryd.underlying36
 have HB := am (Below.refl w.heap.size w)
 have H : (some (0, 0, ([] : List (S94)), (([(⟨34, 0, 0, 0⟩ : S36)] : List (S36))), ([] : List (S98)), ([] : List (S27)))) = some (r1, r2, r3, r4, r5, r6) := h
 clear h
 obtain ⟨y237, hy237⟩ : ∃ y_ : List (S36), y_ = (([(⟨34, 0, 0, 0⟩ : S36)] : List (S36))) := ⟨_, rfl⟩
 replace H : (some (0, 0, ([] : List (S94)), y237, ([] : List (S98)), ([] : List (S27)))) = some (r1, r2, r3, r4, r5, r6) := by first | (rw [hy237]; with_reducible exact H) | (have H2_ := (Option.bind_some _ _).symm.trans H; rw [hy237]; with_reducible exact H2_) | (have H2_ := (Option.bind_some _ _).symm.trans H; with_reducible exact H2_) | with_reducible exact H | (rw [hy237]; exact H) | exact H
 have Ny237 := am hy237
 clear hy237
 simp only [Option.some.injEq, Prod.mk.injEq] at H
 obtain ⟨rfl, rfl, rfl, rfl, rfl, rfl⟩ := H
 go_enter Tryd.func28, Tryd.ntmps28
 go_wp2_with (first | ((with_reducible refine gate_dst (N := 0) rfl ?_); refine box_event ?hg (N := 0) ?hd (cs := #[.int .i64 0, .int .i64 0, .slice none 0 0, .slice none 0 0, .slice none 0 0, .slice none 0 0]) (t := 27) ?hr ?_; (case hd => rfl); (case hg => rfl); (case hr => first | (go_simp; done) | (go_simp; rfl)); intro gb236 hg w1 hbox hb; have BK236 := am (hbox); have GW236 := am ((by rw [hg]; exact (below_size pB) : w.heap.size ≤ gb236)); have GE236 := am ((by rw [hg]; exact (below_size pB) : w.heap.size ≤ gb236)); replace HB := am (below_step pB hb); clear hb hbox hg) | ((with_reducible refine gate_dst (N := 2) rfl ?_); refine Kd.R_lit k36 _ 36 ?hg (N := 2) ?hd (xs := ([(⟨34, 0, 0, 0⟩ : S36)] : List (S36))) (inner := [.int .i64 34, .int .i64 0, .int .i64 0, .int .i64 0]) (ok := fun _ => True) (okp := fun _ => True) ?hr ?hp (fun _ hk => hk) trivial (Below.refl _ _) (Nat.le_refl _) (by simp) ?_; (case hd => rfl); (case hg => rfl); (case hr => first | (go_simp; done) | (go_simp; rfl)); (case hp => exact (Reps.c4 (show Kd.M k36 _ _ _ (⟨34, 0, 0, 0⟩ : S36) [.int .i64 34, .int .i64 0, .int .i64 0, .int .i64 0] from (k36_mkM _ _ _ (⟨34, 0, 0, 0⟩ : S36) )) (Reps.none _ _))); intro v238 w2 ho3 hb hg_ hnew_; clear hg_ hnew_; (first | rw [← Ny237.out] at ho3 | (simp only [Int.reduceToNat] at ho3; rw [← Ny237.out] at ho3)); have HO239 := am (Kd.R_lower ho3 (below_size pB)); replace BK236 := am (pkb BK236.out hb); replace HB := am (below_step pB hb); clear hb ho3; obtain ⟨Ao4, co4, eo4⟩ := Kd.R_slice HO239.out; subst eo4; have q5 := cf6 BK236.out))
 refine bodyPost_ret (results_cell_row rfl _ _ gb236 27 #[.int .i64 0, .int .i64 0, .slice none 0 0, .slice Ao4 y237.length co4, .slice none 0 0, .slice none 0 0] (0, 0) _ rfl (by (iterate 2 ((with_reducible repeat (first | refine blk_drewN ?_ _ | refine blk_drew ?_ | refine blk_alloc ?_ _)); refine blk_put (cs := #[.int .i64 0, .int .i64 0, .slice none 0 0, .slice Ao4 y237.length co4, .slice none 0 0, .slice none 0 0]) ?_ _ _ rfl)); (with_reducible repeat (first | refine blk_drewN ?_ _ | refine blk_drew ?_ | refine blk_alloc ?_ _)); refine blk_put (cs := #[.int .i64 0, .int .i64 0, .slice none 0 0, .slice none 0 0, .slice none 0 0, .slice none 0 0]) ?_ 3 _ rfl; (iterate 3 ((with_reducible repeat (first | refine blk_drewN ?_ _ | refine blk_drew ?_ | refine blk_alloc ?_ _)); refine blk_put (cs := #[.int .i64 0, .int .i64 0, .slice none 0 0, .slice none 0 0, .slice none 0 0, .slice none 0 0]) ?_ _ _ rfl)); (with_reducible repeat (first | refine blk_drewN ?_ _ | refine blk_drew ?_ | refine blk_alloc ?_ _)); exact BK236.out) Tryd.underlying27 rfl (by kernel_rfl)) rfl ?_
 exact ⟨_, _, _, _, pE, pZ, by (with_reducible repeat (first | apply Kd.R_alloc | apply Kd.R_drewN | apply Kd.R_drew)); exact Kd.R_mono (Kd.R_far (p := ⟨gb236, 5, none⟩) (Kd.R_far (p := ⟨gb236, 4, none⟩) (Kd.R_far (p := ⟨gb236, 3, none⟩) (Kd.R_far (p := ⟨gb236, 2, none⟩) (Kd.R_far (p := ⟨gb236, 1, none⟩) (Kd.R_far (p := ⟨gb236, 0, none⟩) (Kd.R_types HO239.out BK236.out (by decide)) (fun _ hk => hk.2) (.int .i64 0)) (fun _ hk => hk.2) (.int .i64 0)) (fun _ hk => hk.2) (.slice none 0 0)) (fun _ hk => hk.2) (.slice Ao4 y237.length co4)) (fun _ hk => hk.2) (.slice none 0 0)) (fun _ hk => hk.2) (.slice none 0 0)) (fun _ hk => trivial), pZ, pZ, pB⟩
def minstrellaw13_lives.f  : Option (Bool) := (minstrellaw13_least.f).bind fun bt240 => ((prog_Check.f bt240.1 bt240.2.1 bt240.2.2.1 bt240.2.2.2.1 bt240.2.2.2.2.1 bt240.2.2.2.2.2).bind fun t254 => (if t254 = 0 then ((prog_Check.f 0 0 ([] : List (S94)) ([] : List (S36)) ([] : List (S98)) ([] : List (S27))).bind fun t255 => (if t255 = 1 then ((minstrellaw13_least.f).bind fun bt256 => ((prog_Print.f bt256.1 bt256.2.1 bt256.2.2.1 bt256.2.2.2.1 bt256.2.2.2.2.1 bt256.2.2.2.2.2).bind fun t270 => (some (t270.toList == ([48, 32, 101, 110, 100, 10] : List UInt8))))) else (none))) else (none)))
set_option maxHeartbeats 8000000 in
set_option maxRecDepth 100000 in
theorem minstrellaw13_lives.calls  (r : Bool) (w : World) (hG : OrdersLaid w) (h : minstrellaw13_lives.f  = some r) :
  Calls Tryd.prog 9 #[] w fun e w' => e = .returned (.bool r) ∧ Below w.heap.size w w' := by
 have hu27 := Tryd.underlying27
 have HG := am hG
 clear hG
 have HB := am (Below.refl w.heap.size w)
 have H : ((minstrellaw13_least.f).bind fun bt240 => ((prog_Check.f bt240.1 bt240.2.1 bt240.2.2.1 bt240.2.2.2.1 bt240.2.2.2.2.1 bt240.2.2.2.2.2).bind fun t254 => (if t254 = 0 then ((prog_Check.f 0 0 ([] : List (S94)) ([] : List (S36)) ([] : List (S98)) ([] : List (S27))).bind fun t255 => (if t255 = 1 then ((minstrellaw13_least.f).bind fun bt256 => ((prog_Print.f bt256.1 bt256.2.1 bt256.2.2.1 bt256.2.2.2.1 bt256.2.2.2.2.1 bt256.2.2.2.2.2).bind fun t270 => (some (t270.toList == ([48, 32, 101, 110, 100, 10] : List UInt8))))) else (none))) else (none)))) = some r := h
 clear h
 replace H := Option.bind_eq_some_iff.mp H
 obtain ⟨⟨t240, t241, t242, t245, t248, t251⟩, A10, H⟩ := H
 try dsimp only at H
 have A1 := am A10
 clear A10
 replace H := Option.bind_eq_some_iff.mp H
 obtain ⟨t254, A20, H⟩ := H
 try dsimp only at H
 have A2 := am A20
 clear A20
 by_cases c3 : t254 = 0
 ·rw [if_pos c3] at H
  have c3b0 : (t254 == 0) = true := beq_iff_eq.mpr c3
  have c3b1 : (t254 != 0) = false := bne_eq_false_iff_eq.mpr c3
  clear c3
  replace H := Option.bind_eq_some_iff.mp H
  obtain ⟨t255, A40, H⟩ := H
  try dsimp only at H
  have A4 := am A40
  clear A40
  by_cases c5 : t255 = 1
  ·rw [if_pos c5] at H
   have c5b0 : (t255 == 1) = true := beq_iff_eq.mpr c5
   have c5b1 : (t255 != 1) = false := bne_eq_false_iff_eq.mpr c5
   clear c5
   replace H := Option.bind_eq_some_iff.mp H
   obtain ⟨⟨t256, t257, t258, t261, t264, t267⟩, A60, H⟩ := H
   try dsimp only at H
   have A6 := am A60
   clear A60
   replace H := Option.bind_eq_some_iff.mp H
   obtain ⟨t270, A70, H⟩ := H
   try dsimp only at H
   have A7 := am A70
   clear A70
   obtain rfl := Option.some.inj H
   go_enter Tryd.func9, Tryd.ntmps9
   go_wp2_with (first | ((with_reducible refine gate_callee (f := 28) rfl ?_); refine goesL_ (some 1) rfl rfl Tryd.func28 (by kernel_rfl) rfl #[] rfl pM ?_; (with_reducible refine (minstrellaw13_least.calls  t240 t241 t242 t245 t248 t251 _ A1.out).mono ?_); rintro e w8 ⟨v243, v246, v249, v252, rfl, ho0, ho1, ho2, ho3, hb⟩; refine ⟨_, rfl, ?_⟩; have HO244 := am (Kd.R_lower ho0 (below_size pB)); have HO247 := am (Kd.R_lower ho1 (below_size pB)); have HO250 := am (Kd.R_lower ho2 (below_size pB)); have HO253 := am (Kd.R_lower ho3 (below_size pB)); replace HB := am (below_step pB hb); (try clear hb); (try clear hb2); (try clear hk); (try clear hi); (try clear ho0); (try clear ho1); (try clear ho2); (try clear ho3); obtain ⟨Ao9, co9, eo9⟩ := Kd.R_slice HO244.out; subst eo9; obtain ⟨Ao10, co10, eo10⟩ := Kd.R_slice HO247.out; subst eo10; obtain ⟨Ao11, co11, eo11⟩ := Kd.R_slice HO250.out; subst eo11; obtain ⟨Ao12, co12, eo12⟩ := Kd.R_slice HO253.out; subst eo12) | ((with_reducible refine gate_callee (f := 10) rfl ?_); refine goesL_ (some 2) rfl rfl Tryd.func10 (by kernel_rfl) rfl #[.agg #[.int .i64 t240, .int .i64 t241, .slice Ao9 t242.length co9, .slice Ao10 t245.length co10, .slice Ao11 t248.length co11, .slice Ao12 t251.length co12]] rfl pM ?_; (with_reducible refine (prog_Check.calls t240 t241 _ _ t242 _ _ t245 _ _ t248 _ _ t251 t254 _ ?side1 ?side2 ?side3 ?side4 ?side5 ?side6 ?side7 ?side8 ?side9 A2.out).mono ?_); (case side1 => repeat (first | exact (Kd.R_reads' HO244.out).2.2 | (with_reducible refine Kd.C_alloc ?_ _) | (with_reducible refine Kd.C_drewN ?_ _) | (with_reducible refine Kd.C_drew ?_))); (case side2 => exact (Kd.R_reads' HO244.out).2.1); (case side3 => repeat (first | exact (Kd.R_reads' HO247.out).2.2 | (with_reducible refine Kd.C_alloc ?_ _) | (with_reducible refine Kd.C_drewN ?_ _) | (with_reducible refine Kd.C_drew ?_))); (case side4 => exact (Kd.R_reads' HO247.out).2.1); (case side5 => repeat (first | exact (Kd.R_reads' HO250.out).2.2 | (with_reducible refine Kd.C_alloc ?_ _) | (with_reducible refine Kd.C_drewN ?_ _) | (with_reducible refine Kd.C_drew ?_))); (case side6 => exact (Kd.R_reads' HO250.out).2.1); (case side7 => repeat (first | exact (Kd.R_reads' HO253.out).2.2 | (with_reducible refine Kd.C_alloc ?_ _) | (with_reducible refine Kd.C_drewN ?_ _) | (with_reducible refine Kd.C_drew ?_))); (case side8 => exact (Kd.R_reads' HO253.out).2.1); (case side9 => exact pG); rintro e w13 ⟨rfl, hb⟩; refine ⟨_, rfl, ?_⟩; replace HO244 := am (Kd.R_below (pR HO244.out) hb); replace HO247 := am (Kd.R_below (pR HO247.out) hb); replace HO250 := am (Kd.R_below (pR HO250.out) hb); replace HO253 := am (Kd.R_below (pR HO253.out) hb); replace HB := am (below_step pB hb); (try clear hb); (try clear hb2); (try clear hk); (try clear hi)) | (go_at_call 10; (refine (prog_Check.calls 0 0 _ _ ([] : List (S94)) _ _ ([] : List (S36)) _ _ ([] : List (S98)) _ _ ([] : List (S27)) t255 _ ?side1 ?side2 ?side3 ?side4 ?side5 ?side6 ?side7 ?side8 ?side9 A4.out).mono ?_); (case side1 => exact Kd.C_nil _ _); (case side2 => exact Nat.le_refl _); (case side3 => exact Kd.C_nil _ _); (case side4 => exact Nat.le_refl _); (case side5 => exact Kd.C_nil _ _); (case side6 => exact Nat.le_refl _); (case side7 => exact Kd.C_nil _ _); (case side8 => exact Nat.le_refl _); (case side9 => exact pG); rintro e w14 ⟨rfl, hb⟩; replace HO244 := am (Kd.R_below (pR HO244.out) hb); replace HO247 := am (Kd.R_below (pR HO247.out) hb); replace HO250 := am (Kd.R_below (pR HO250.out) hb); replace HO253 := am (Kd.R_below (pR HO253.out) hb); replace HB := am (below_step pB hb); (try clear hb); (try clear hb2); (try clear hk); (try clear hi)) | (go_at_call 28; (with_reducible refine (minstrellaw13_least.calls  t256 t257 t258 t261 t264 t267 _ A6.out).mono ?_); rintro e w15 ⟨v259, v262, v265, v268, rfl, ho0, ho1, ho2, ho3, hb⟩; have HO260 := am (Kd.R_lower (Kd.R_new' ho0 (Kd.R_lt (pR HO244.out))) (below_size pB)); have HO263 := am (Kd.R_lower (Kd.R_new' ho1 (Kd.R_lt (pR HO247.out))) (below_size pB)); have HO266 := am (Kd.R_lower (Kd.R_new' ho2 (Kd.R_lt (pR HO250.out))) (below_size pB)); have HO269 := am (Kd.R_lower (Kd.R_new' (Kd.R_new' (Kd.R_new' (Kd.R_new' ho3 (Kd.R_lt (pR HO244.out))) (Kd.R_lt (pR HO247.out))) (Kd.R_lt (pR HO250.out))) (Kd.R_lt (pR HO253.out))) (below_size pB)); replace HO244 := am (Kd.R_elder' (pR HO244.out) (Kd.R_base ho0) hb); replace HO247 := am (Kd.R_elder' (pR HO247.out) (Kd.R_base ho1) hb); replace HO250 := am (Kd.R_elder' (pR HO250.out) (Kd.R_base ho2) hb); replace HO253 := am (Kd.R_mono (Kd.R_told (Kd.R_told (Kd.R_told (Kd.R_told (Kd.R_old (pR HO253.out) hb) (Kd.R_base ho0)) (Kd.R_base ho1)) (Kd.R_base ho2)) (Kd.R_base ho3)) (fun _ h_ => h_.1)); replace HB := am (below_step pB hb); (try clear hb); (try clear hb2); (try clear hk); (try clear hi); (try clear ho0); (try clear ho1); (try clear ho2); (try clear ho3); obtain ⟨Ao16, co16, eo16⟩ := Kd.R_slice HO260.out; subst eo16; obtain ⟨Ao17, co17, eo17⟩ := Kd.R_slice HO263.out; subst eo17; obtain ⟨Ao18, co18, eo18⟩ := Kd.R_slice HO266.out; subst eo18; obtain ⟨Ao19, co19, eo19⟩ := Kd.R_slice HO269.out; subst eo19) | (go_at_call 13; (with_reducible refine (prog_Print.calls t256 t257 _ _ t258 _ _ t261 _ _ t264 _ _ t267 t270 _ ?side1 ?side2 ?side3 ?side4 ?side5 ?side6 ?side7 ?side8 ?side9 A7.out).mono ?_); (case side1 => repeat (first | exact (Kd.R_reads' HO260.out).2.2 | (with_reducible refine Kd.C_alloc ?_ _) | (with_reducible refine Kd.C_drewN ?_ _) | (with_reducible refine Kd.C_drew ?_))); (case side2 => exact (Kd.R_reads' HO260.out).2.1); (case side3 => repeat (first | exact (Kd.R_reads' HO263.out).2.2 | (with_reducible refine Kd.C_alloc ?_ _) | (with_reducible refine Kd.C_drewN ?_ _) | (with_reducible refine Kd.C_drew ?_))); (case side4 => exact (Kd.R_reads' HO263.out).2.1); (case side5 => repeat (first | exact (Kd.R_reads' HO266.out).2.2 | (with_reducible refine Kd.C_alloc ?_ _) | (with_reducible refine Kd.C_drewN ?_ _) | (with_reducible refine Kd.C_drew ?_))); (case side6 => exact (Kd.R_reads' HO266.out).2.1); (case side7 => repeat (first | exact (Kd.R_reads' HO269.out).2.2 | (with_reducible refine Kd.C_alloc ?_ _) | (with_reducible refine Kd.C_drewN ?_ _) | (with_reducible refine Kd.C_drew ?_))); (case side8 => exact (Kd.R_reads' HO269.out).2.1); (case side9 => exact pG); rintro e w20 ⟨rfl, hb⟩; replace HO244 := am (Kd.R_below (pR HO244.out) hb); replace HO247 := am (Kd.R_below (pR HO247.out) hb); replace HO250 := am (Kd.R_below (pR HO250.out) hb); replace HO253 := am (Kd.R_below (pR HO253.out) hb); replace HO260 := am (Kd.R_below (pR HO260.out) hb); replace HO263 := am (Kd.R_below (pR HO263.out) hb); replace HO266 := am (Kd.R_below (pR HO266.out) hb); replace HO269 := am (Kd.R_below (pR HO269.out) hb); replace HB := am (below_step pB hb); (try clear hb); (try clear hb2); (try clear hk); (try clear hi)))
   go_ret
   exact ⟨pE, pB⟩
  ·rw [if_neg c5] at H
   exact absurd H (by simp)
 ·rw [if_neg c3] at H
  exact absurd H (by simp)
def minstrellaw13_ProgChecks.f (k : Nat) (a0_0 : Int) (a0_1 : Int) (l0_2 : List (S94)) (l0_3 : List (S36)) (l0_4 : List (S98)) (l0_5 : List (S27)) : Option (Bool) := (minstrellaw13_small.f k a0_0 a0_1 l0_2 l0_3 l0_4 l0_5).bind fun t277 => (if t277 = true then ((minstrelref13_Own.f k a0_0 a0_1 l0_2 l0_3 l0_4 l0_5).bind fun bt279 => ((prog_Check.f bt279.1 bt279.2.1 bt279.2.2.1 bt279.2.2.2.1 bt279.2.2.2.2.1 bt279.2.2.2.2.2).bind fun t293 => ((minstrelref13_Check.f k a0_0 a0_1 l0_2 l0_3 l0_4 l0_5).bind fun t294 => (if t293 = t294 then ((minstrelref13_Own.f k a0_0 a0_1 l0_2 l0_3 l0_4 l0_5).bind fun bt295 => ((prog_Print.f bt295.1 bt295.2.1 bt295.2.2.1 bt295.2.2.2.1 bt295.2.2.2.2.1 bt295.2.2.2.2.2).bind fun t309 => ((minstrelref13_Print.f k a0_0 a0_1 l0_2 l0_3 l0_4 l0_5).bind fun t310 => (if t309.toList = t310.toList then ((minstrellaw13_lives.f).bind fun t311 => (some t311)) else (none))))) else (none))))) else ((minstrellaw13_lives.f).bind fun t278 => (some t278)))
def minstrellaw13_ProgChecks.T3 : Bool × List (List Nat × List Nat) := (true, [([], []), ([0], [0]), ([1, 1], [1]), ([], []), ([3, 2], [3]), ([2, 4], [2, 4]), ([5, 4], [5]), ([6], [6]), ([7, 6, 6], [6, 7]), ([8, 8, 6], [6, 8]), ([6], [6]), ([10, 9, 6], [6, 10]), ([9, 11, 6], [6, 9, 11]), ([6, 12], [6, 12]), ([13, 11], [13]), ([14, 14], [14]), ([14, 15], [14, 15]), ([16, 15, 0, 1, 2, 3, 4, 5, 6, 7, 8, 9, 10, 11, 12, 13, 14, 15, 16], [16])])
def minstrellaw13_ProgChecks.B3 : List Nat := [0, 1, 3, 0, 15, 31, 63, 127, 255, 511, 127, 2047, 4095, 8191, 16383, 32767, 65535, 131071]
theorem minstrellaw13_ProgChecks.tab3 : rtab .any (opsOf Tryd.f3 3) = minstrellaw13_ProgChecks.T3 := by kernel_rfl
theorem minstrellaw13_ProgChecks.bits3 : waitsOk minstrellaw13_ProgChecks.T3.2 minstrellaw13_ProgChecks.B3 = true := by kernel_rfl
set_option maxHeartbeats 8000000 in
set_option maxRecDepth 100000 in
theorem minstrellaw13_ProgChecks.calls (k : Nat) (a0_0 : Int) (a0_1 : Int) (A0_2 : Option Addr) (c0_2 : Nat) (l0_2 : List (S94)) (A0_3 : Option Addr) (c0_3 : Nat) (l0_3 : List (S36)) (A0_4 : Option Addr) (c0_4 : Nat) (l0_4 : List (S98)) (A0_5 : Option Addr) (c0_5 : Nat) (l0_5 : List (S27)) (r : Bool) (w : World) (hr0_2 : Kd.C k94 w A0_2 l0_2.length l0_2) (hc0_2 : l0_2.length ≤ c0_2) (hr0_3 : Kd.C k36 w A0_3 l0_3.length l0_3) (hc0_3 : l0_3.length ≤ c0_3) (hr0_4 : Kd.C k98 w A0_4 l0_4.length l0_4) (hc0_4 : l0_4.length ≤ c0_4) (hr0_5 : Kd.C k27 w A0_5 l0_5.length l0_5) (hc0_5 : l0_5.length ≤ c0_5) (hG : OrdersLaid w) (h : minstrellaw13_ProgChecks.f k a0_0 a0_1 l0_2 l0_3 l0_4 l0_5 = some r) :
  Calls Tryd.prog 3 #[.agg #[.int .i64 a0_0, .int .i64 a0_1, .slice A0_2 l0_2.length c0_2, .slice A0_3 l0_3.length c0_3, .slice A0_4 l0_4.length c0_4, .slice A0_5 l0_5.length c0_5]] w fun e w' => e = .returned (.bool r) ∧ Below w.heap.size w w' := by
 have hu27 := Tryd.underlying27
 have HR0_2 := am hr0_2
 have HC0_2 := am hc0_2
 clear hr0_2 hc0_2
 have HR0_3 := am hr0_3
 have HC0_3 := am hc0_3
 clear hr0_3 hc0_3
 have HR0_4 := am hr0_4
 have HC0_4 := am hc0_4
 clear hr0_4 hc0_4
 have HR0_5 := am hr0_5
 have HC0_5 := am hc0_5
 clear hr0_5 hc0_5
 have HG := am hG
 clear hG
 have HB := am (Below.refl w.heap.size w)
 have H : ((minstrellaw13_small.f k a0_0 a0_1 l0_2 l0_3 l0_4 l0_5).bind fun t277 => (if t277 = true then ((minstrelref13_Own.f k a0_0 a0_1 l0_2 l0_3 l0_4 l0_5).bind fun bt279 => ((prog_Check.f bt279.1 bt279.2.1 bt279.2.2.1 bt279.2.2.2.1 bt279.2.2.2.2.1 bt279.2.2.2.2.2).bind fun t293 => ((minstrelref13_Check.f k a0_0 a0_1 l0_2 l0_3 l0_4 l0_5).bind fun t294 => (if t293 = t294 then ((minstrelref13_Own.f k a0_0 a0_1 l0_2 l0_3 l0_4 l0_5).bind fun bt295 => ((prog_Print.f bt295.1 bt295.2.1 bt295.2.2.1 bt295.2.2.2.1 bt295.2.2.2.2.1 bt295.2.2.2.2.2).bind fun t309 => ((minstrelref13_Print.f k a0_0 a0_1 l0_2 l0_3 l0_4 l0_5).bind fun t310 => (if t309.toList = t310.toList then ((minstrellaw13_lives.f).bind fun t311 => (some t311)) else (none))))) else (none))))) else ((minstrellaw13_lives.f).bind fun t278 => (some t278)))) = some r := h
 clear h
 replace H := Option.bind_eq_some_iff.mp H
 obtain ⟨t277, A20, H⟩ := H
 try dsimp only at H
 have A2 := am A20
 clear A20
 by_cases c3 : t277 = true
 ·subst c3
  rw [if_pos rfl] at H
  replace H := Option.bind_eq_some_iff.mp H
  obtain ⟨⟨t279, t280, t281, t284, t287, t290⟩, A40, H⟩ := H
  try dsimp only at H
  have A4 := am A40
  clear A40
  replace H := Option.bind_eq_some_iff.mp H
  obtain ⟨t293, A50, H⟩ := H
  try dsimp only at H
  have A5 := am A50
  clear A50
  replace H := Option.bind_eq_some_iff.mp H
  obtain ⟨t294, A60, H⟩ := H
  try dsimp only at H
  have A6 := am A60
  clear A60
  by_cases c7 : t293 = t294
  ·rw [if_pos c7] at H
   have c7b0 : (t293 == t294) = true := beq_iff_eq.mpr c7
   have c7b1 : (t293 != t294) = false := bne_eq_false_iff_eq.mpr c7
   clear c7
   replace H := Option.bind_eq_some_iff.mp H
   obtain ⟨⟨t295, t296, t297, t300, t303, t306⟩, A80, H⟩ := H
   try dsimp only at H
   have A8 := am A80
   clear A80
   replace H := Option.bind_eq_some_iff.mp H
   obtain ⟨t309, A90, H⟩ := H
   try dsimp only at H
   have A9 := am A90
   clear A90
   replace H := Option.bind_eq_some_iff.mp H
   obtain ⟨t310, A100, H⟩ := H
   try dsimp only at H
   have A10 := am A100
   clear A100
   by_cases c11 : t309.toList = t310.toList
   ·rw [if_pos c11] at H
    have c11b0 : (t309.toList == t310.toList) = true := beq_iff_eq.mpr c11
    have c11b1 : (t309.toList != t310.toList) = false := bne_eq_false_iff_eq.mpr c11
    clear c11
    replace H := Option.bind_eq_some_iff.mp H
    obtain ⟨t311, A120, H⟩ := H
    try dsimp only at H
    have A12 := am A120
    clear A120
    obtain rfl := Option.some.inj H
    go_enter Tryd.func3, Tryd.ntmps3
    try go_wp2_with (first | ((with_reducible refine gate_dst (N := 1) rfl ?_); refine box_event ?hg (N := 1) ?hd (cs := #[.int .i64 a0_0, .int .i64 a0_1, .slice A0_2 l0_2.length c0_2, .slice A0_3 l0_3.length c0_3, .slice A0_4 l0_4.length c0_4, .slice A0_5 l0_5.length c0_5]) (t := 27) ?hr ?_; (case hd => rfl); (case hg => rfl); (case hr => first | (go_simp; done) | (go_simp; rfl)); intro gb276 hg w13 hbox hb; have BK276 := am (hbox); have GW276 := am ((by rw [hg]; exact (below_size pB) : w.heap.size ≤ gb276)); have GE276 := am ((by rw [hg]; exact (below_size pB) : w.heap.size ≤ gb276)); replace HB := am (below_step pB hb); clear hb hbox hg; have q14 := cf6 BK276.out) | ((with_reducible refine gate_callee (f := 8) rfl ?_); refine goesL_ (some 4) rfl rfl Tryd.func8 (by kernel_rfl) rfl #[.agg #[.int .i64 a0_0, .int .i64 a0_1, .slice A0_2 l0_2.length c0_2, .slice A0_3 l0_3.length c0_3, .slice A0_4 l0_4.length c0_4, .slice A0_5 l0_5.length c0_5]] rfl pM ?_; (with_reducible refine (minstrellaw13_small.calls k a0_0 a0_1 _ _ l0_2 _ _ l0_3 _ _ l0_4 _ _ l0_5 true _ ?side1 ?side2 ?side3 ?side4 ?side5 ?side6 ?side7 ?side8 A2.out).mono ?_); (case side1 => exact pC (Kd.C_below HR0_2.out HB.out)); (case side2 => exact HC0_2.out); (case side3 => exact pC (Kd.C_below HR0_3.out HB.out)); (case side4 => exact HC0_3.out); (case side5 => exact pC (Kd.C_below HR0_4.out HB.out)); (case side6 => exact HC0_4.out); (case side7 => exact pC (Kd.C_below HR0_5.out HB.out)); (case side8 => exact HC0_5.out); rintro e w15 ⟨rfl, hb⟩; refine ⟨_, rfl, ?_⟩; replace BK276 := am (pkb BK276.out hb); replace HB := am (below_step pB hb); (try clear hb); (try clear hb2); (try clear hk); (try clear hi)))
    replace BK276 := am (blk_drew BK276.out)
    replace HB := am (below_drew1 HB.out)
    refine start_ (n := 18) (S := fun w' => w'.cell? ⟨gb276, 0, none⟩ = some (.int .i64 a0_0) ∧ w'.cell? ⟨gb276, 1, none⟩ = some (.int .i64 a0_1) ∧ w'.cell? ⟨gb276, 2, none⟩ = some (.slice A0_2 l0_2.length c0_2) ∧ w'.cell? ⟨gb276, 3, none⟩ = some (.slice A0_3 l0_3.length c0_3) ∧ w'.cell? ⟨gb276, 4, none⟩ = some (.slice A0_4 l0_4.length c0_4) ∧ w'.cell? ⟨gb276, 5, none⟩ = some (.slice A0_5 l0_5.length c0_5)) (ds := []) (bm 18 0) (by kernel_rfl) rfl rfl ⟨cz0 BK276.out, cz1 BK276.out, cz2 BK276.out, cz3 BK276.out, cz4 BK276.out, cz5 BK276.out⟩ (fun hHeld => ?_); refine with_tabW minstrellaw13_ProgChecks.tab3 minstrellaw13_ProgChecks.bits3 (fun HT_ HW_ => ?_)
    generalize w15.drew = w16 at BK276 HB hHeld ⊢
    refine take_ (i := 0) (N := some 7) (v := ?_) (a' := ?_) (bm 18 1) rfl rfl (take_ofW HT_.out HW_.out (by kernel_rfl)) (fun _ _ _ h => h) (Or.inl ⟨by kernel_rfl, ?_⟩) hHeld ?_ ?_
    rotate_left
    ·rintro w' ⟨s0, s1, s2, s3, s4, s5⟩
     go_simp
     with_reducible rfl
    rotate_left
    ·exact pA
    refine take_ (i := 3) (N := some 10) (v := ?_) (a' := ?_) (bm 18 9) rfl rfl (take_ofW HT_.out HW_.out (by kernel_rfl)) (fun _ _ _ h => h) (Or.inl ⟨by kernel_rfl, ?_⟩) hHeld ?_ ?_
    rotate_left
    ·rintro w' ⟨s0, s1, s2, s3, s4, s5⟩
     go_simp
     with_reducible rfl
    rotate_left
    ·exact pA
    refine one_ (i := 1) (N := some 8) (bm 18 11) rfl rfl (one_of HT_.out (by kernel_rfl)) (by decide) (fun K hK => ?_)
    refine goes_ Tryd.func11 (by kernel_rfl) rfl #[.agg #[.int .i64 a0_0, .int .i64 a0_1, .slice A0_2 l0_2.length c0_2, .slice A0_3 l0_3.length c0_3, .slice A0_4 l0_4.length c0_4, .slice A0_5 l0_5.length c0_5]] (by rfl) rfl rfl pM ?_
    with_reducible refine (minstrelref13_Own.calls k a0_0 a0_1 _ _ l0_2 _ _ l0_3 _ _ l0_4 _ _ l0_5 t279 t280 t281 t284 t287 t290 _ ?side1 ?side2 ?side3 ?side4 ?side5 ?side6 ?side7 ?side8 A4.out).mono ?_
    (case side1 => exact pC (Kd.C_below HR0_2.out HB.out))
    (case side2 => exact HC0_2.out)
    (case side3 => exact pC (Kd.C_below HR0_3.out HB.out))
    (case side4 => exact HC0_3.out)
    (case side5 => exact pC (Kd.C_below HR0_4.out HB.out))
    (case side6 => exact HC0_4.out)
    (case side7 => exact pC (Kd.C_below HR0_5.out HB.out))
    (case side8 => exact HC0_5.out)
    rintro e w17 ⟨v282, v285, v288, v291, rfl, ho0, ho1, ho2, ho3, hb⟩
    refine ⟨_, rfl, ?_⟩
    have n0_ := am (Kd.R_lower ho0 (below_size pB))
    have n1_ := am (Kd.R_lower ho1 (below_size pB))
    have n2_ := am (Kd.R_lower ho2 (below_size pB))
    have n3_ := am (Kd.R_lower (Kd.R_newB ho3 (g := gb276) (o := .cells #[.int .i64 a0_0, .int .i64 a0_1, .slice A0_2 l0_2.length c0_2, .slice A0_3 l0_3.length c0_3, .slice A0_4 l0_4.length c0_4, .slice A0_5 l0_5.length c0_5] 27 (0, 0)) (pK BK276.out)) (below_size pB))
    have n4_ := am (pkb BK276.out hb)
    have n5_ := am (below_step pB hb)
    clear BK276 HB; have HO283 := n0_; have HO286 := n1_; have HO289 := n2_; have HO292 := n3_; have BK276 := n4_; have HB := n5_; clear n0_ n1_ n2_ n3_ n4_ n5_; (try clear hb); (try clear hb2); (try clear hk); (try clear hi); (try clear ho0); (try clear ho1); (try clear ho2); (try clear ho3)
    obtain ⟨Ao18, co18, eo18⟩ := Kd.R_slice HO283.out
    (first | subst eo18 | (injection eo18 with f1_ f2_ f3_; have f4_ := f1_.symm; have f5_ := f3_.symm; clear f1_ f2_ f3_; subst f4_; subst f5_))
    obtain ⟨Ao19, co19, eo19⟩ := Kd.R_slice HO286.out
    (first | subst eo19 | (injection eo19 with f1_ f2_ f3_; have f4_ := f1_.symm; have f5_ := f3_.symm; clear f1_ f2_ f3_; subst f4_; subst f5_))
    obtain ⟨Ao20, co20, eo20⟩ := Kd.R_slice HO289.out
    (first | subst eo20 | (injection eo20 with f1_ f2_ f3_; have f4_ := f1_.symm; have f5_ := f3_.symm; clear f1_ f2_ f3_; subst f4_; subst f5_))
    obtain ⟨Ao21, co21, eo21⟩ := Kd.R_slice HO292.out
    (first | subst eo21 | (injection eo21 with f1_ f2_ f3_; have f4_ := f1_.symm; have f5_ := f3_.symm; clear f1_ f2_ f3_; subst f4_; subst f5_))
    refine hK.out _ _ ⟨cz0 BK276.out, cz1 BK276.out, cz2 BK276.out, cz3 BK276.out, cz4 BK276.out, cz5 BK276.out⟩ (fun hHeld => ?_)
    clear hK K
    refine norm_ (a' := ?_) ?_ ?_
    rotate_left
    ·show Act.put _ (some 8) _ = _
     exact pA
    refine one_ (i := 2) (N := some 9) (bm 18 15) rfl rfl (one_of HT_.out (by kernel_rfl)) (by decide) (fun K hK => ?_)
    refine goes_ Tryd.func10 (by kernel_rfl) rfl #[.agg #[.int .i64 t279, .int .i64 t280, .slice Ao18 t281.length co18, .slice Ao19 t284.length co19, .slice Ao20 t287.length co20, .slice Ao21 t290.length co21]] (by rfl) rfl rfl pM ?_
    with_reducible refine (prog_Check.calls t279 t280 _ _ t281 _ _ t284 _ _ t287 _ _ t290 t293 _ ?side1 ?side2 ?side3 ?side4 ?side5 ?side6 ?side7 ?side8 ?side9 A5.out).mono ?_
    (case side1 => repeat (first | exact (Kd.R_reads' HO283.out).2.2 | (with_reducible refine Kd.C_alloc ?_ _) | (with_reducible refine Kd.C_drewN ?_ _) | (with_reducible refine Kd.C_drew ?_)))
    (case side2 => exact (Kd.R_reads' HO283.out).2.1)
    (case side3 => repeat (first | exact (Kd.R_reads' HO286.out).2.2 | (with_reducible refine Kd.C_alloc ?_ _) | (with_reducible refine Kd.C_drewN ?_ _) | (with_reducible refine Kd.C_drew ?_)))
    (case side4 => exact (Kd.R_reads' HO286.out).2.1)
    (case side5 => repeat (first | exact (Kd.R_reads' HO289.out).2.2 | (with_reducible refine Kd.C_alloc ?_ _) | (with_reducible refine Kd.C_drewN ?_ _) | (with_reducible refine Kd.C_drew ?_)))
    (case side6 => exact (Kd.R_reads' HO289.out).2.1)
    (case side7 => repeat (first | exact (Kd.R_reads' HO292.out).2.2 | (with_reducible refine Kd.C_alloc ?_ _) | (with_reducible refine Kd.C_drewN ?_ _) | (with_reducible refine Kd.C_drew ?_)))
    (case side8 => exact (Kd.R_reads' HO292.out).2.1)
    (case side9 => exact pG)
    rintro e w22 ⟨rfl, hb⟩
    refine ⟨_, rfl, ?_⟩
    have n0_ := am (Kd.R_below (pR HO283.out) hb)
    have n1_ := am (Kd.R_below (pR HO286.out) hb)
    have n2_ := am (Kd.R_below (pR HO289.out) hb)
    have n3_ := am (Kd.R_below (pR HO292.out) hb)
    have n4_ := am (pkb BK276.out hb)
    have n5_ := am (below_step pB hb)
    clear HO283 HO286 HO289 HO292 BK276 HB; have HO283 := n0_; have HO286 := n1_; have HO289 := n2_; have HO292 := n3_; have BK276 := n4_; have HB := n5_; clear n0_ n1_ n2_ n3_ n4_ n5_; (try clear hb); (try clear hb2); (try clear hk); (try clear hi)
    refine hK.out _ _ ⟨cz0 BK276.out, cz1 BK276.out, cz2 BK276.out, cz3 BK276.out, cz4 BK276.out, cz5 BK276.out⟩ (fun hHeld => ?_)
    clear hK K
    refine norm_ (a' := ?_) ?_ ?_
    rotate_left
    ·show Act.put _ (some 9) _ = _
     exact pA
    refine one_ (i := 4) (N := some 11) (bm 18 31) rfl rfl (one_of HT_.out (by kernel_rfl)) (by decide) (fun K hK => ?_)
    refine goes_ Tryd.func12 (by kernel_rfl) rfl #[.agg #[.int .i64 a0_0, .int .i64 a0_1, .slice A0_2 l0_2.length c0_2, .slice A0_3 l0_3.length c0_3, .slice A0_4 l0_4.length c0_4, .slice A0_5 l0_5.length c0_5]] (by rfl) rfl rfl pM ?_
    with_reducible refine (minstrelref13_Check.calls k a0_0 a0_1 _ _ l0_2 _ _ l0_3 _ _ l0_4 _ _ l0_5 t294 _ ?side1 ?side2 ?side3 ?side4 ?side5 ?side6 ?side7 ?side8 A6.out).mono ?_
    (case side1 => exact pC (Kd.C_below HR0_2.out HB.out))
    (case side2 => exact HC0_2.out)
    (case side3 => exact pC (Kd.C_below HR0_3.out HB.out))
    (case side4 => exact HC0_3.out)
    (case side5 => exact pC (Kd.C_below HR0_4.out HB.out))
    (case side6 => exact HC0_4.out)
    (case side7 => exact pC (Kd.C_below HR0_5.out HB.out))
    (case side8 => exact HC0_5.out)
    rintro e w23 ⟨rfl, hb⟩
    refine ⟨_, rfl, ?_⟩
    have n0_ := am (Kd.R_below (pR HO283.out) hb)
    have n1_ := am (Kd.R_below (pR HO286.out) hb)
    have n2_ := am (Kd.R_below (pR HO289.out) hb)
    have n3_ := am (Kd.R_below (pR HO292.out) hb)
    have n4_ := am (pkb BK276.out hb)
    have n5_ := am (below_step pB hb)
    clear HO283 HO286 HO289 HO292 BK276 HB; have HO283 := n0_; have HO286 := n1_; have HO289 := n2_; have HO292 := n3_; have BK276 := n4_; have HB := n5_; clear n0_ n1_ n2_ n3_ n4_ n5_; (try clear hb); (try clear hb2); (try clear hk); (try clear hi)
    refine hK.out _ _ ⟨cz0 BK276.out, cz1 BK276.out, cz2 BK276.out, cz3 BK276.out, cz4 BK276.out, cz5 BK276.out⟩ (fun hHeld => ?_)
    clear hK K
    refine norm_ (a' := ?_) ?_ ?_
    rotate_left
    ·show Act.put _ (some 11) _ = _
     exact pA
    refine pure_ (i := 5) (N := some 12) (v := ?_) (a' := ?_) (bm 18 63) rfl rfl (any_of HT_.out (by kernel_rfl)) (fun _ _ _ h => h) (Or.inl ⟨by kernel_rfl, ?_⟩) ?_ ?_
    rotate_left
    ·intro w'
     go_simp
     with_reducible rfl
    rotate_left
    ·exact pA
    refine pure_ (i := 6) (N := some 13) (v := ?_) (a' := ?_) (bm 18 127) rfl rfl (any_of HT_.out (by kernel_rfl)) (fun _ _ _ h => h) (Or.inl ⟨by kernel_rfl, ?_⟩) ?_ ?_
    rotate_left
    ·intro w'
     go_simp
     with_reducible rfl
    rotate_left
    ·exact pA
    refine take_ (i := 7) (N := some 14) (v := ?_) (a' := ?_) (bm 18 255) rfl rfl (take_ofW HT_.out HW_.out (by kernel_rfl)) (fun _ _ _ h => h) (Or.inl ⟨by kernel_rfl, ?_⟩) hHeld ?_ ?_
    rotate_left
    ·rintro w' ⟨s0, s1, s2, s3, s4, s5⟩
     go_simp
     with_reducible rfl
    rotate_left
    ·exact pA
    refine take_ (i := 10) (N := some 17) (v := ?_) (a' := ?_) (bm 18 1279) rfl rfl (take_ofW HT_.out HW_.out (by kernel_rfl)) (fun _ _ _ h => h) (Or.inl ⟨by kernel_rfl, ?_⟩) hHeld ?_ ?_
    rotate_left
    ·rintro w' ⟨s0, s1, s2, s3, s4, s5⟩
     go_simp
     with_reducible rfl
    rotate_left
    ·exact pA
    refine one_ (i := 8) (N := some 15) (bm 18 1535) rfl rfl (one_of HT_.out (by kernel_rfl)) (by decide) (fun K hK => ?_)
    refine goes_ Tryd.func11 (by kernel_rfl) rfl #[.agg #[.int .i64 a0_0, .int .i64 a0_1, .slice A0_2 l0_2.length c0_2, .slice A0_3 l0_3.length c0_3, .slice A0_4 l0_4.length c0_4, .slice A0_5 l0_5.length c0_5]] (by rfl) rfl rfl pM ?_
    with_reducible refine (minstrelref13_Own.calls k a0_0 a0_1 _ _ l0_2 _ _ l0_3 _ _ l0_4 _ _ l0_5 t295 t296 t297 t300 t303 t306 _ ?side1 ?side2 ?side3 ?side4 ?side5 ?side6 ?side7 ?side8 A8.out).mono ?_
    (case side1 => exact pC (Kd.C_below HR0_2.out HB.out))
    (case side2 => exact HC0_2.out)
    (case side3 => exact pC (Kd.C_below HR0_3.out HB.out))
    (case side4 => exact HC0_3.out)
    (case side5 => exact pC (Kd.C_below HR0_4.out HB.out))
    (case side6 => exact HC0_4.out)
    (case side7 => exact pC (Kd.C_below HR0_5.out HB.out))
    (case side8 => exact HC0_5.out)
    rintro e w24 ⟨v298, v301, v304, v307, rfl, ho0, ho1, ho2, ho3, hb⟩
    refine ⟨_, rfl, ?_⟩
    have n0_ := am (Kd.R_elder' (pR HO283.out) (Kd.R_base ho0) hb)
    have n1_ := am (Kd.R_elder' (pR HO286.out) (Kd.R_base ho1) hb)
    have n2_ := am (Kd.R_elder' (pR HO289.out) (Kd.R_base ho2) hb)
    have n3_ := am (Kd.R_mono (Kd.R_told (Kd.R_told (Kd.R_told (Kd.R_told (Kd.R_old (pR HO292.out) hb) (Kd.R_base ho0)) (Kd.R_base ho1)) (Kd.R_base ho2)) (Kd.R_base ho3)) (fun _ h_ => h_.1))
    have n4_ := am (Kd.R_lower (Kd.R_new' ho0 (Kd.R_lt (pR HO283.out))) (below_size pB))
    have n5_ := am (Kd.R_lower (Kd.R_new' ho1 (Kd.R_lt (pR HO286.out))) (below_size pB))
    have n6_ := am (Kd.R_lower (Kd.R_new' ho2 (Kd.R_lt (pR HO289.out))) (below_size pB))
    have n7_ := am (Kd.R_lower (Kd.R_newB (Kd.R_new' (Kd.R_new' (Kd.R_new' (Kd.R_new' ho3 (Kd.R_lt (pR HO283.out))) (Kd.R_lt (pR HO286.out))) (Kd.R_lt (pR HO289.out))) (Kd.R_lt (pR HO292.out))) (g := gb276) (o := .cells #[.int .i64 a0_0, .int .i64 a0_1, .slice A0_2 l0_2.length c0_2, .slice A0_3 l0_3.length c0_3, .slice A0_4 l0_4.length c0_4, .slice A0_5 l0_5.length c0_5] 27 (0, 0)) (pK BK276.out)) (below_size pB))
    have n8_ := am (pkb BK276.out hb)
    have n9_ := am (below_step pB hb)
    clear HO283 HO286 HO289 HO292 BK276 HB; have HO283 := n0_; have HO286 := n1_; have HO289 := n2_; have HO292 := n3_; have HO299 := n4_; have HO302 := n5_; have HO305 := n6_; have HO308 := n7_; have BK276 := n8_; have HB := n9_; clear n0_ n1_ n2_ n3_ n4_ n5_ n6_ n7_ n8_ n9_; (try clear hb); (try clear hb2); (try clear hk); (try clear hi); (try clear ho0); (try clear ho1); (try clear ho2); (try clear ho3)
    obtain ⟨Ao25, co25, eo25⟩ := Kd.R_slice HO299.out
    (first | subst eo25 | (injection eo25 with f1_ f2_ f3_; have f4_ := f1_.symm; have f5_ := f3_.symm; clear f1_ f2_ f3_; subst f4_; subst f5_))
    obtain ⟨Ao26, co26, eo26⟩ := Kd.R_slice HO302.out
    (first | subst eo26 | (injection eo26 with f1_ f2_ f3_; have f4_ := f1_.symm; have f5_ := f3_.symm; clear f1_ f2_ f3_; subst f4_; subst f5_))
    obtain ⟨Ao27, co27, eo27⟩ := Kd.R_slice HO305.out
    (first | subst eo27 | (injection eo27 with f1_ f2_ f3_; have f4_ := f1_.symm; have f5_ := f3_.symm; clear f1_ f2_ f3_; subst f4_; subst f5_))
    obtain ⟨Ao28, co28, eo28⟩ := Kd.R_slice HO308.out
    (first | subst eo28 | (injection eo28 with f1_ f2_ f3_; have f4_ := f1_.symm; have f5_ := f3_.symm; clear f1_ f2_ f3_; subst f4_; subst f5_))
    refine hK.out _ _ ⟨cz0 BK276.out, cz1 BK276.out, cz2 BK276.out, cz3 BK276.out, cz4 BK276.out, cz5 BK276.out⟩ (fun hHeld => ?_)
    clear hK K
    refine norm_ (a' := ?_) ?_ ?_
    rotate_left
    ·show Act.put _ (some 15) _ = _
     exact pA
    refine one_ (i := 9) (N := some 16) (bm 18 2047) rfl rfl (one_of HT_.out (by kernel_rfl)) (by decide) (fun K hK => ?_)
    refine goes_ Tryd.func13 (by kernel_rfl) rfl #[.agg #[.int .i64 t295, .int .i64 t296, .slice Ao25 t297.length co25, .slice Ao26 t300.length co26, .slice Ao27 t303.length co27, .slice Ao28 t306.length co28]] (by rfl) rfl rfl pM ?_
    with_reducible refine (prog_Print.calls t295 t296 _ _ t297 _ _ t300 _ _ t303 _ _ t306 t309 _ ?side1 ?side2 ?side3 ?side4 ?side5 ?side6 ?side7 ?side8 ?side9 A9.out).mono ?_
    (case side1 => repeat (first | exact (Kd.R_reads' HO299.out).2.2 | (with_reducible refine Kd.C_alloc ?_ _) | (with_reducible refine Kd.C_drewN ?_ _) | (with_reducible refine Kd.C_drew ?_)))
    (case side2 => exact (Kd.R_reads' HO299.out).2.1)
    (case side3 => repeat (first | exact (Kd.R_reads' HO302.out).2.2 | (with_reducible refine Kd.C_alloc ?_ _) | (with_reducible refine Kd.C_drewN ?_ _) | (with_reducible refine Kd.C_drew ?_)))
    (case side4 => exact (Kd.R_reads' HO302.out).2.1)
    (case side5 => repeat (first | exact (Kd.R_reads' HO305.out).2.2 | (with_reducible refine Kd.C_alloc ?_ _) | (with_reducible refine Kd.C_drewN ?_ _) | (with_reducible refine Kd.C_drew ?_)))
    (case side6 => exact (Kd.R_reads' HO305.out).2.1)
    (case side7 => repeat (first | exact (Kd.R_reads' HO308.out).2.2 | (with_reducible refine Kd.C_alloc ?_ _) | (with_reducible refine Kd.C_drewN ?_ _) | (with_reducible refine Kd.C_drew ?_)))
    (case side8 => exact (Kd.R_reads' HO308.out).2.1)
    (case side9 => exact pG)
    rintro e w29 ⟨rfl, hb⟩
    refine ⟨_, rfl, ?_⟩
    have n0_ := am (Kd.R_below (pR HO283.out) hb)
    have n1_ := am (Kd.R_below (pR HO286.out) hb)
    have n2_ := am (Kd.R_below (pR HO289.out) hb)
    have n3_ := am (Kd.R_below (pR HO292.out) hb)
    have n4_ := am (Kd.R_below (pR HO299.out) hb)
    have n5_ := am (Kd.R_below (pR HO302.out) hb)
    have n6_ := am (Kd.R_below (pR HO305.out) hb)
    have n7_ := am (Kd.R_below (pR HO308.out) hb)
    have n8_ := am (pkb BK276.out hb)
    have n9_ := am (below_step pB hb)
    clear HO283 HO286 HO289 HO292 HO299 HO302 HO305 HO308 BK276 HB; have HO283 := n0_; have HO286 := n1_; have HO289 := n2_; have HO292 := n3_; have HO299 := n4_; have HO302 := n5_; have HO305 := n6_; have HO308 := n7_; have BK276 := n8_; have HB := n9_; clear n0_ n1_ n2_ n3_ n4_ n5_ n6_ n7_ n8_ n9_; (try clear hb); (try clear hb2); (try clear hk); (try clear hi)
    refine hK.out _ _ ⟨cz0 BK276.out, cz1 BK276.out, cz2 BK276.out, cz3 BK276.out, cz4 BK276.out, cz5 BK276.out⟩ (fun hHeld => ?_)
    clear hK K
    refine norm_ (a' := ?_) ?_ ?_
    rotate_left
    ·show Act.put _ (some 16) _ = _
     exact pA
    refine one_ (i := 11) (N := some 18) (bm 18 4095) rfl rfl (one_of HT_.out (by kernel_rfl)) (by decide) (fun K hK => ?_)
    refine goes_ Tryd.func14 (by kernel_rfl) rfl #[.agg #[.int .i64 a0_0, .int .i64 a0_1, .slice A0_2 l0_2.length c0_2, .slice A0_3 l0_3.length c0_3, .slice A0_4 l0_4.length c0_4, .slice A0_5 l0_5.length c0_5]] (by rfl) rfl rfl pM ?_
    with_reducible refine (minstrelref13_Print.calls k a0_0 a0_1 _ _ l0_2 _ _ l0_3 _ _ l0_4 _ _ l0_5 t310 _ ?side1 ?side2 ?side3 ?side4 ?side5 ?side6 ?side7 ?side8 A10.out).mono ?_
    (case side1 => exact pC (Kd.C_below HR0_2.out HB.out))
    (case side2 => exact HC0_2.out)
    (case side3 => exact pC (Kd.C_below HR0_3.out HB.out))
    (case side4 => exact HC0_3.out)
    (case side5 => exact pC (Kd.C_below HR0_4.out HB.out))
    (case side6 => exact HC0_4.out)
    (case side7 => exact pC (Kd.C_below HR0_5.out HB.out))
    (case side8 => exact HC0_5.out)
    rintro e w30 ⟨rfl, hb⟩
    refine ⟨_, rfl, ?_⟩
    have n0_ := am (Kd.R_below (pR HO283.out) hb)
    have n1_ := am (Kd.R_below (pR HO286.out) hb)
    have n2_ := am (Kd.R_below (pR HO289.out) hb)
    have n3_ := am (Kd.R_below (pR HO292.out) hb)
    have n4_ := am (Kd.R_below (pR HO299.out) hb)
    have n5_ := am (Kd.R_below (pR HO302.out) hb)
    have n6_ := am (Kd.R_below (pR HO305.out) hb)
    have n7_ := am (Kd.R_below (pR HO308.out) hb)
    have n8_ := am (pkb BK276.out hb)
    have n9_ := am (below_step pB hb)
    clear HO283 HO286 HO289 HO292 HO299 HO302 HO305 HO308 BK276 HB; have HO283 := n0_; have HO286 := n1_; have HO289 := n2_; have HO292 := n3_; have HO299 := n4_; have HO302 := n5_; have HO305 := n6_; have HO308 := n7_; have BK276 := n8_; have HB := n9_; clear n0_ n1_ n2_ n3_ n4_ n5_ n6_ n7_ n8_ n9_; (try clear hb); (try clear hb2); (try clear hk); (try clear hi)
    refine hK.out _ _ ⟨cz0 BK276.out, cz1 BK276.out, cz2 BK276.out, cz3 BK276.out, cz4 BK276.out, cz5 BK276.out⟩ (fun hHeld => ?_)
    clear hK K
    refine norm_ (a' := ?_) ?_ ?_
    rotate_left
    ·show Act.put _ (some 18) _ = _
     exact pA
    refine pure_ (i := 12) (N := some 19) (v := ?_) (a' := ?_) (bm 18 8191) rfl rfl (any_of HT_.out (by kernel_rfl)) (fun _ _ _ h => h) (Or.inl ⟨by kernel_rfl, ?_⟩) ?_ ?_
    rotate_left
    ·intro w'
     go_simp
     with_reducible rfl
    rotate_left
    ·exact pA
    refine pure_ (i := 13) (N := some 20) (v := ?_) (a' := ?_) (bm 18 16383) rfl rfl (any_of HT_.out (by kernel_rfl)) (fun _ _ _ h => h) (Or.inl ⟨by kernel_rfl, ?_⟩) ?_ ?_
    rotate_left
    ·intro w'
     go_simp
     with_reducible rfl
    rotate_left
    ·exact pA
    refine pure_ (i := 14) (N := some 21) (v := ?_) (a' := ?_) (bm 18 32767) rfl rfl (any_of HT_.out (by kernel_rfl)) (fun _ _ _ h => h) (Or.inl ⟨by kernel_rfl, ?_⟩) ?_ ?_
    rotate_left
    ·intro w'
     go_simp
     with_reducible rfl
    rotate_left
    ·exact pA
    refine one_ (i := 15) (N := some 22) (bm 18 65535) rfl rfl (one_of HT_.out (by kernel_rfl)) (by decide) (fun K hK => ?_)
    refine goes_ Tryd.func9 (by kernel_rfl) rfl #[] (by rfl) rfl rfl pM ?_
    with_reducible refine (minstrellaw13_lives.calls  t311 _ ?side1 A12.out).mono ?_
    (case side1 => exact pG)
    rintro e w31 ⟨rfl, hb⟩
    refine ⟨_, rfl, ?_⟩
    have n0_ := am (Kd.R_below (pR HO283.out) hb)
    have n1_ := am (Kd.R_below (pR HO286.out) hb)
    have n2_ := am (Kd.R_below (pR HO289.out) hb)
    have n3_ := am (Kd.R_below (pR HO292.out) hb)
    have n4_ := am (Kd.R_below (pR HO299.out) hb)
    have n5_ := am (Kd.R_below (pR HO302.out) hb)
    have n6_ := am (Kd.R_below (pR HO305.out) hb)
    have n7_ := am (Kd.R_below (pR HO308.out) hb)
    have n8_ := am (pkb BK276.out hb)
    have n9_ := am (below_step pB hb)
    clear HO283 HO286 HO289 HO292 HO299 HO302 HO305 HO308 BK276 HB; have HO283 := n0_; have HO286 := n1_; have HO289 := n2_; have HO292 := n3_; have HO299 := n4_; have HO302 := n5_; have HO305 := n6_; have HO308 := n7_; have BK276 := n8_; have HB := n9_; clear n0_ n1_ n2_ n3_ n4_ n5_ n6_ n7_ n8_ n9_; (try clear hb); (try clear hb2); (try clear hk); (try clear hi)
    refine hK.out _ _ ⟨cz0 BK276.out, cz1 BK276.out, cz2 BK276.out, cz3 BK276.out, cz4 BK276.out, cz5 BK276.out⟩ (fun hHeld => ?_)
    clear hK K
    refine norm_ (a' := ?_) ?_ ?_
    rotate_left
    ·show Act.put _ (some 22) _ = _
     exact pA
    refine pure_ (i := 16) (N := some 23) (v := ?_) (a' := ?_) (bm 18 131071) rfl rfl (any_of HT_.out (by kernel_rfl)) (fun _ _ _ h => h) (Or.inl ⟨by kernel_rfl, ?_⟩) ?_ ?_
    rotate_left
    ·intro w'
     go_simp
     with_reducible rfl
    rotate_left
    ·exact pA
    refine pure_ (i := 17) (N := some 2) (v := ?_) (a' := ?_) (bm 18 262143) rfl rfl (any_of HT_.out (by kernel_rfl)) (fun _ _ _ h => h) (Or.inl ⟨by kernel_rfl, ?_⟩) ?_ ?_
    rotate_left
    ·intro w'
     go_simp
     with_reducible rfl
    rotate_left
    ·exact pA
    refine done_ (done_of HT_.out (by kernel_rfl)) ?_
    try go_wp2
    go_ret
    exact ⟨pE, pB⟩
   ·rw [if_neg c11] at H
    have c11b0 : (t309.toList == t310.toList) = false := beq_eq_false_iff_ne.mpr c11
    have c11b1 : (t309.toList != t310.toList) = true := bne_iff_ne.mpr c11
    exact absurd H (by simp)
  ·rw [if_neg c7] at H
   have c7b0 : (t293 == t294) = false := beq_eq_false_iff_ne.mpr c7
   have c7b1 : (t293 != t294) = true := bne_iff_ne.mpr c7
   exact absurd H (by simp)
 ·replace c3 := Bool.eq_false_iff.mpr c3
  subst c3
  rw [if_neg (show ¬ (false = true) by decide)] at H
  replace H := Option.bind_eq_some_iff.mp H
  obtain ⟨t278, A320, H⟩ := H
  try dsimp only at H
  have A32 := am A320
  clear A320
  obtain rfl := Option.some.inj H
  go_enter Tryd.func3, Tryd.ntmps3
  go_wp2_with (first | ((with_reducible refine gate_dst (N := 1) rfl ?_); refine box_event ?hg (N := 1) ?hd (cs := #[.int .i64 a0_0, .int .i64 a0_1, .slice A0_2 l0_2.length c0_2, .slice A0_3 l0_3.length c0_3, .slice A0_4 l0_4.length c0_4, .slice A0_5 l0_5.length c0_5]) (t := 27) ?hr ?_; (case hd => rfl); (case hg => rfl); (case hr => first | (go_simp; done) | (go_simp; rfl)); intro gb276 hg w33 hbox hb; have BK276 := am (hbox); have GW276 := am ((by rw [hg]; exact (below_size pB) : w.heap.size ≤ gb276)); have GE276 := am ((by rw [hg]; exact (below_size pB) : w.heap.size ≤ gb276)); replace HB := am (below_step pB hb); clear hb hbox hg; have q34 := cf6 BK276.out) | ((with_reducible refine gate_callee (f := 8) rfl ?_); refine goesL_ (some 4) rfl rfl Tryd.func8 (by kernel_rfl) rfl #[.agg #[.int .i64 a0_0, .int .i64 a0_1, .slice A0_2 l0_2.length c0_2, .slice A0_3 l0_3.length c0_3, .slice A0_4 l0_4.length c0_4, .slice A0_5 l0_5.length c0_5]] rfl pM ?_; (with_reducible refine (minstrellaw13_small.calls k a0_0 a0_1 _ _ l0_2 _ _ l0_3 _ _ l0_4 _ _ l0_5 false _ ?side1 ?side2 ?side3 ?side4 ?side5 ?side6 ?side7 ?side8 A2.out).mono ?_); (case side1 => exact pC (Kd.C_below HR0_2.out HB.out)); (case side2 => exact HC0_2.out); (case side3 => exact pC (Kd.C_below HR0_3.out HB.out)); (case side4 => exact HC0_3.out); (case side5 => exact pC (Kd.C_below HR0_4.out HB.out)); (case side6 => exact HC0_4.out); (case side7 => exact pC (Kd.C_below HR0_5.out HB.out)); (case side8 => exact HC0_5.out); rintro e w35 ⟨rfl, hb⟩; refine ⟨_, rfl, ?_⟩; replace BK276 := am (pkb BK276.out hb); replace HB := am (below_step pB hb); (try clear hb); (try clear hb2); (try clear hk); (try clear hi)) | ((with_reducible refine gate_callee (f := 9) rfl ?_); refine goesL_ (some 6) rfl rfl Tryd.func9 (by kernel_rfl) rfl #[] rfl pM ?_; (with_reducible refine (minstrellaw13_lives.calls  t278 _ ?side1 A32.out).mono ?_); (case side1 => exact pG); rintro e w36 ⟨rfl, hb⟩; refine ⟨_, rfl, ?_⟩; replace BK276 := am (pkb BK276.out hb); replace HB := am (below_step pB hb); (try clear hb); (try clear hb2); (try clear hk); (try clear hi)))
  go_ret
  exact ⟨pE, pB⟩
end Go.Proofs.YtlhnkfheojlghaaDoor.Pr
end
section
namespace Go.Proofs.YtlhnkfheojlghaaDoor.Pr
open Go.RowKit Go.Proofs.YtlhnkfheojlghaaDoorW.PrintWords Go.Proofs.YtlhnkfheojlghaaDoorW.PrintLast Go.Proofs.YtlhnkfheojlghaaDoorW.PrintMore
attribute [local go_sem] max2_int min2_int max_two min_two max_three min_three max_four min_four
end Go.Proofs.YtlhnkfheojlghaaDoor.Pr
end
section
namespace Go.Proofs.YtlhnkfheojlghaaDoor.Pure
open Go.RowKit Go.Proofs.YtlhnkfheojlghaaDoor.Pr Go.Proofs.YtlhnkfheojlghaaDoorW.PrintWords Go.Proofs.YtlhnkfheojlghaaDoorW.PrintLast Go.Proofs.YtlhnkfheojlghaaDoorW.PrintMore
theorem wrap64_in (x : Int) (h0 : -9223372036854775808 ≤ x) (h1 : x ≤ 9223372036854775807) : wrap64 x = x := by unfold wrap64; omega
theorem rd27 (L : List S27) (j : Nat) (h : j < L.length) : rd_T27 L (j : Int) = L[j] := by simp [rd_T27, h]
theorem eta27 (p : S27) : (⟨p.f0, p.f1, p.f2, p.f3, p.f4, p.f5⟩ : S27) = p := by cases p; rfl
mutual
def sz : S27 → Nat
  | ⟨_, _, u, c, v, q⟩ => 1 + c.length + v.length + u.length + szL q
def szL : List S27 → Nat
  | [] => 0
  | p :: l => sz p + szL l
end
theorem sz_eq (p : S27) : sz p = 1 + p.f3.length + p.f4.length + p.f2.length + szL p.f5 := by cases p; rw [sz]
theorem szL_append : ∀ (a b : List S27), szL (a ++ b) = szL a + szL b
  | [], b => by rw [List.nil_append, szL]; omega
  | p :: a, b => by rw [List.cons_append, szL, szL, szL_append a b]; omega
theorem szL_one (p : S27) : szL [p] = sz p := by rw [szL, szL]; omega
theorem szL_mem : ∀ {l : List S27} {p : S27}, p ∈ l → sz p ≤ szL l
  | [], _, h => by cases h
  | q :: l, p, h => by
    rw [szL]
    rcases List.mem_cons.1 h with rfl | h
    · omega
    · have := szL_mem h; omega
theorem sz_pos (p : S27) : 1 ≤ sz p := by rw [sz_eq]; omega
theorem szL_len : ∀ (l : List S27), l.length ≤ szL l
  | [] => Nat.zero_le _
  | p :: l => by rw [szL, List.length_cons]; have := szL_len l; have := sz_pos p; omega
mutual
def lenP : S27 → Prop
  | ⟨_, _, u, c, v, q⟩ => u.length ≤ 140737488355328 ∧ c.length ≤ 140737488355328 ∧ v.length ≤ 140737488355328 ∧ q.length ≤ 140737488355328 ∧ lenL q
def lenL : List S27 → Prop
  | [] => True
  | p :: l => lenP p ∧ lenL l
end
theorem lenP_eq (p : S27) : lenP p = (p.f2.length ≤ 140737488355328 ∧ p.f3.length ≤ 140737488355328 ∧ p.f4.length ≤ 140737488355328 ∧ p.f5.length ≤ 140737488355328 ∧ lenL p.f5) := by cases p; rw [lenP]
theorem lenL_mem : ∀ {l : List S27} {p : S27}, lenL l → p ∈ l → lenP p
  | [], _, _, h => by cases h
  | q :: l, p, hl, h => by
    rw [lenL] at hl
    rcases List.mem_cons.1 h with rfl | h
    · exact hl.1
    · exact lenL_mem hl.2 h
theorem small_loop (p : S27) (most deep : Int) (hl : p.f5.length ≤ 140737488355328) (hm0 : -(deep * 422212465065985) ≤ most) (hm1 : most ≤ 3000) (hd0 : 0 ≤ deep) (hd1 : deep ≤ 200)
    (ih : ∀ x ∈ p.f5, ∀ most deep : Int, -(deep * 422212465065985) ≤ most → most ≤ 3000 → 0 ≤ deep → deep ≤ 201 → ∃ r ok, Ev (fun k => minstrelref13_Small.f k x.f0 x.f1 x.f2 x.f3 x.f4 x.f5 most deep) (r, ok) ∧ 1 ≤ r ∧ r ≤ 3000 + (202 - deep) * 422212465065985 ∧ (ok = true → r = (sz x : Int) ∧ r ≤ most)) :
    ∀ (m n : Nat) (x8 : Int), n + m = p.f5.length → 1 ≤ x8 → x8 ≤ 422212465065985 → (n = 0 ∨ x8 ≤ most) → x8 = ((1 + p.f3.length + p.f4.length + p.f2.length + szL (p.f5.take n) : Nat) : Int) →
      ∃ r ok, Ev (fun k => minstrelref13_Small.l0 k most deep x8 (n : Int) p.f0 p.f1 p.f2 p.f3 p.f4 p.f5) (r, ok) ∧ 1 ≤ r ∧ r ≤ 3000 + (202 - deep) * 422212465065985 ∧ (ok = true → r = (sz p : Int) ∧ r ≤ most)
  | 0, n, x8, hn, h1, h2, h3, h4 => by
    refine ⟨x8, decide (x8 ≤ most), ?_, h1, by omega, fun h => ⟨?_, of_decide_eq_true h⟩⟩
    · refine Ev.step (f := fun k => some (x8, decide (x8 ≤ most))) (fun k => ?_) (Ev.now _)
      rw [minstrelref13_Small.l0, if_neg (by omega)]
    · rw [h4, sz_eq, List.take_of_length_le (by omega)]
  | m + 1, n, x8, hn, h1, h2, h3, h4 => by
    have hna : n < p.f5.length := by omega
    obtain ⟨r, ok, hr, hr1, hr2, hr3⟩ := ih p.f5[n] (List.getElem_mem _) (most - x8) (deep + 1) (by omega) (by omega) (by omega) (by omega)
    have e1 : wrap64 (most - x8) = most - x8 := wrap64_in _ (by omega) (by omega)
    have e2 : wrap64 (deep + 1) = deep + 1 := wrap64_in _ (by omega) (by omega)
    have e3 : wrap64 (x8 + r) = x8 + r := wrap64_in _ (by omega) (by omega)
    have e4 : wrap64 ((n : Int) + 1) = ((n + 1 : Nat) : Int) := wrap64_in _ (by omega) (by omega)
    have E := Aside0.mk (And.intro e1 (And.intro e2 (And.intro e3 e4)))
    clear e1 e2 e3 e4
    have hstep : ∀ k, minstrelref13_Small.l0 (k + 1) most deep x8 (n : Int) p.f0 p.f1 p.f2 p.f3 p.f4 p.f5 = (minstrelref13_Small.f k (p.f5[n].f0) (p.f5[n].f1) (p.f5[n].f2) (p.f5[n].f3) (p.f5[n].f4) (p.f5[n].f5) (most - x8) (deep + 1)).bind fun bt => (if bt.2 = true then (if (wrap64 (x8 + bt.1)) > most then (some (wrap64 (x8 + bt.1), false)) else (minstrelref13_Small.l0 k most deep (wrap64 (x8 + bt.1)) ((n + 1 : Nat) : Int) p.f0 p.f1 p.f2 p.f3 p.f4 p.f5)) else (some (wrap64 (x8 + bt.1), false))) := fun k => by
      rw [minstrelref13_Small.l0, if_pos (by omega), if_pos (by omega), rd27 _ n hna, E.out.1, E.out.2.1, E.out.2.2.2]
    cases ok with
    | false =>
      refine ⟨x8 + r, false, Ev.step hstep (Ev.bind hr ?_), by omega, by omega, fun h => by cases h⟩
      simp only [Bool.false_eq_true, if_false, E.out.2.2.1]
      exact Ev.now _
    | true =>
      obtain ⟨q1, q2⟩ := hr3 rfl
      obtain ⟨r', ok', hr', hrest⟩ := small_loop p most deep hl hm0 hm1 hd0 hd1 ih m (n + 1) (x8 + r) (by omega) (by omega) (by omega) (by omega) (by
        rw [List.take_succ_eq_append_getElem hna, szL_append, szL_one]; omega)
      refine ⟨r', ok', Ev.step hstep (Ev.bind hr ?_), hrest⟩
      simp only [if_true, E.out.2.2.1, if_neg (show ¬ x8 + r > most by omega)]
      exact hr'
theorem small_ev (N : Nat) : ∀ (p : S27), SizeOf.sizeOf p ≤ N → lenP p → ∀ most deep : Int, -(deep * 422212465065985) ≤ most → most ≤ 3000 → 0 ≤ deep → deep ≤ 201 →
    ∃ r ok, Ev (fun k => minstrelref13_Small.f k p.f0 p.f1 p.f2 p.f3 p.f4 p.f5 most deep) (r, ok) ∧ 1 ≤ r ∧ r ≤ 3000 + (202 - deep) * 422212465065985 ∧ (ok = true → r = (sz p : Int) ∧ r ≤ most) := by
  induction N with
  | zero => intro p hp; exfalso; obtain ⟨f0, f1, f2, f3, f4, f5⟩ := p; simp at hp
  | succ N ih =>
    intro p hp hl most deep h0 h1 h2 h3
    rw [lenP_eq] at hl
    obtain ⟨l2, l3, l4, l5, hl5⟩ := hl
    have e1 : wrap64 (1 + (p.f3.length : Int)) = 1 + (p.f3.length : Int) := wrap64_in _ (by omega) (by omega)
    have e2 : wrap64 (1 + (p.f3.length : Int) + (p.f4.length : Int)) = 1 + (p.f3.length : Int) + (p.f4.length : Int) := wrap64_in _ (by omega) (by omega)
    have e3 : wrap64 (1 + (p.f3.length : Int) + (p.f4.length : Int) + (p.f2.length : Int)) = 1 + (p.f3.length : Int) + (p.f4.length : Int) + (p.f2.length : Int) := wrap64_in _ (by omega) (by omega)
    have E := Aside0.mk (And.intro e1 (And.intro e2 e3))
    clear e1 e2 e3
    by_cases hd : deep > 200
    · refine ⟨1 + (p.f3.length : Int) + (p.f4.length : Int) + (p.f2.length : Int), false, Ev.step (f := fun k => some (1 + (p.f3.length : Int) + (p.f4.length : Int) + (p.f2.length : Int), false)) (fun k => ?_) (Ev.now _), by omega, by omega, fun h => by cases h⟩
      rw [minstrelref13_Small.f, if_pos hd, E.out.1, E.out.2.1, E.out.2.2]
    · obtain ⟨r, ok, hr, hrest⟩ := small_loop p most deep l5 h0 h1 h2 (by omega) (fun x hx => ih x (by have := sizeOf_mem hx; omega) (lenL_mem hl5 hx)) p.f5.length 0 (1 + (p.f3.length : Int) + (p.f4.length : Int) + (p.f2.length : Int)) (by omega) (by omega) (by omega) (.inl rfl) (by
        rw [List.take_zero, szL]; omega)
      refine ⟨r, ok, Ev.step (fun k => ?_) hr, hrest⟩
      rw [minstrelref13_Small.f, if_neg hd, E.out.1, E.out.2.1, E.out.2.2]
      rfl
theorem small_top (p : S27) (hl : lenP p) : ∃ ok, Ev (fun k => minstrellaw13_small.f k p.f0 p.f1 p.f2 p.f3 p.f4 p.f5) ok ∧ (ok = true → sz p ≤ 3000) := by
  obtain ⟨r, ok, h1, h2, h3, h4⟩ := small_ev _ p (Nat.le_refl _) hl 3000 0 (by omega) (by omega) (by omega) (by omega)
  refine ⟨ok, Ev.congr (f := fun k => (minstrelref13_Small.f k p.f0 p.f1 p.f2 p.f3 p.f4 p.f5 3000 0).bind fun bt => (some bt.2)) (fun k => ?_) (Ev.bind h1 (Ev.now _)), fun h => by obtain ⟨a, b⟩ := h4 h; omega⟩
  unfold minstrellaw13_small.f
  rfl
abbrev tup (p : S27) : Int × Int × List S94 × List S36 × List S98 × List S27 := (p.f0, p.f1, p.f2, p.f3, p.f4, p.f5)
theorem own_loop (p : S27) (hl : p.f5.length ≤ 3000) (ih : ∀ x ∈ p.f5, Ev (fun k => minstrelref13_Own.f k x.f0 x.f1 x.f2 x.f3 x.f4 x.f5) (tup x)) :
    ∀ (m n : Nat), n + m = p.f5.length → Ev (fun k => minstrelref13_Own.l0 k (p.f5.take n) (n : Int) p.f0 p.f1 p.f2 p.f3 p.f4 p.f5) (tup p)
  | 0, n, hn => by
    refine Ev.step (f := fun k => some (tup p)) (fun k => ?_) (Ev.now _)
    rw [minstrelref13_Own.l0, if_neg (by omega), List.take_of_length_le (by omega)]
  | m + 1, n, hn => by
    have hna : n < p.f5.length := by omega
    have e4 : wrap64 ((n : Int) + 1) = ((n + 1 : Nat) : Int) := wrap64_in _ (by omega) (by omega)
    refine Ev.step (f := fun k => (minstrelref13_Own.f k (p.f5[n].f0) (p.f5[n].f1) (p.f5[n].f2) (p.f5[n].f3) (p.f5[n].f4) (p.f5[n].f5)).bind fun bt => (if (p.f5.take n).length < 1256584717458 then (minstrelref13_Own.l0 k (p.f5.take n ++ [(⟨bt.1, bt.2.1, bt.2.2.1, bt.2.2.2.1, bt.2.2.2.2.1, bt.2.2.2.2.2⟩ : S27)]) ((n + 1 : Nat) : Int) p.f0 p.f1 p.f2 p.f3 p.f4 p.f5) else (none))) (fun k => ?_) (Ev.bind (ih _ (List.getElem_mem _)) ?_)
    · rw [minstrelref13_Own.l0, if_pos (by omega), if_pos (by omega), rd27 _ n hna, e4]
    · simp only [if_pos (show (p.f5.take n).length < 1256584717458 by rw [List.length_take]; omega)]
      have := own_loop p hl ih m (n + 1) (by omega)
      rw [List.take_succ_eq_append_getElem hna] at this
      rw [eta27]
      exact this
theorem own_ev (N : Nat) : ∀ (p : S27), SizeOf.sizeOf p ≤ N → sz p ≤ 3000 → Ev (fun k => minstrelref13_Own.f k p.f0 p.f1 p.f2 p.f3 p.f4 p.f5) (tup p) := by
  induction N with
  | zero => intro p hp; exfalso; obtain ⟨f0, f1, f2, f3, f4, f5⟩ := p; simp at hp
  | succ N ih =>
    intro p hp hs
    have hs' := hs
    rw [sz_eq] at hs'
    have h5 := szL_len p.f5
    refine Ev.step (fun k => ?_) (own_loop p (by omega) (fun x hx => ih x (by have := sizeOf_mem hx; omega) (by have := szL_mem hx; omega)) p.f5.length 0 (by omega))
    rw [minstrelref13_Own.f]
    simp only [Option.bind_some, List.nil_append, List.length_nil, Nat.zero_add]
    rw [if_pos (by omega), if_pos (by omega), if_pos (by omega)]
    rfl
mutual
def flatP : S27 → List S27
  | ⟨a, b, u, c, v, q⟩ => ⟨a, b, u, c, v, q⟩ :: flatL q
def flatL : List S27 → List S27
  | [] => []
  | p :: l => flatP p ++ flatL l
end
mutual
theorem flatP_len : ∀ (p : S27), (flatP p).length ≤ sz p
  | ⟨a, b, u, c, v, q⟩ => by rw [flatP, sz, List.length_cons]; have := flatL_len q; omega
theorem flatL_len : ∀ (l : List S27), (flatL l).length ≤ szL l
  | [] => Nat.zero_le _
  | p :: l => by rw [flatL, szL, List.length_append]; have := flatP_len p; have := flatL_len l; omega
end
end Go.Proofs.YtlhnkfheojlghaaDoor.Pure
end
section
namespace Go.Proofs.YtlhnkfheojlghaaDoor.Pure
open Go.RowKit Go.Proofs.YtlhnkfheojlghaaDoor.Pr Go.Proofs.YtlhnkfheojlghaaDoor.Flo Go.Proofs.YtlhnkfheojlghaaDoorW.PrintWords Go.Proofs.YtlhnkfheojlghaaDoorW.PrintLast Go.Proofs.YtlhnkfheojlghaaDoorW.PrintMore
abbrev Vl := Int × Int × ByteArray × Int
abbrev canonV := canonM
def normV (v : Vl) : Vl :=
  if v.1 = 1 then (1, 0, ⟨#[]⟩, 0) else if v.1 = 2 then (2, 0, ⟨#[]⟩, 0) else if v.1 = 3 then (3, canonV v.2.1, ⟨#[]⟩, 0) else if v.1 = 4 then (4, 0, v.2.2.1, 0)
  else if 5 ≤ v.1 ∧ v.1 ≤ 8 then (v.1, 0, ⟨#[]⟩, v.2.2.2) else (0, 0, ⟨#[]⟩, 0)
theorem bits_and (n m : Nat) (j : Nat) (hn : n < 2 ^ 64) (hm : m = 2 ^ j - 1) (hj : m < 2 ^ 64) : Go.bits .and .u64 (n : Int) (m : Int) = ((n % 2 ^ j : Nat) : Int) := by
  unfold Go.bits
  rw [show IntKind.u64.bits = 64 from rfl]
  simp only [BitVec.toNat_and]
  rw [BitVec.ofInt_natCast, BitVec.toNat_ofNat, Nat.mod_eq_of_lt hn, BitVec.ofInt_natCast, BitVec.toNat_ofNat, Nat.mod_eq_of_lt hj, hm, Nat.and_two_pow_sub_one_eq_mod]
  have : n % 2 ^ j ≤ n := Nat.mod_le _ _
  generalize n % 2 ^ j = u at this ⊢
  unfold IntKind.wrap
  simp [IntKind.bits, IntKind.signed]
  omega
theorem bitsE (n : Nat) (hn : n < 18446744073709551616) : Go.bits .and .u64 ((n : Int) / 4503599627370496) 2047 = ((n / 4503599627370496 % 2048 : Nat) : Int) := by
  have e1 : ((n : Int) / 4503599627370496) = ((n / 4503599627370496 : Nat) : Int) := by omega
  rw [e1]
  exact bits_and (n / 4503599627370496) 2047 11 (by omega) (by decide) (by decide)
theorem bitsF (n : Nat) (hn : n < 18446744073709551616) : Go.bits .and .u64 (n : Int) 4503599627370495 = ((n % 4503599627370496 : Nat) : Int) :=
  bits_and n 4503599627370495 52 (by omega) (by decide) (by decide)
theorem rung_eq (n : Nat) : rung n = n / 4503599627370496 % 2048 * 4503599627370496 + n % 4503599627370496 := by
  unfold rung
  omega
theorem Kind_ev (n : Nat) (hn : n < 18446744073709551616) : Ev (fun k => minstrelref01_Kind.f k (n : Int)) (kindV n) := by
  delta minstrelref01_Kind.f
  rw [bitsE n hn, bitsF n hn]
  have hr := rung_eq n
  unfold kindV nanB infB
  have he : n / 4503599627370496 % 2048 < 2048 := Nat.mod_lt _ (by decide)
  have hf : n % 4503599627370496 < 4503599627370496 := Nat.mod_lt _ (by decide)
  generalize n / 4503599627370496 % 2048 = e at hr he
  generalize n % 4503599627370496 = f at hr hf
  generalize rung n = r at hr
  by_cases h1 : e = 2047
  · subst h1
    simp only [if_pos (show ((2047 : Nat) : Int) = 2047 from rfl)]
    by_cases h2 : f = 0
    · subst h2
      have hb : (((0 : Nat) : Int) != 0) = false := rfl
      simp only [hb]
      apply Ev.step
      · intro k
        rw [minstrelref01_Kind.j0]
      rw [decide_eq_false (show ¬ 9218868437227405312 < r by omega), decide_eq_true (show r = 9218868437227405312 by omega)]
      simp only [Bool.false_eq_true, if_false, if_neg (show ¬ r = 0 by omega), if_true]
      exact Ev.now _
    · have hb : ((f : Int) != 0) = true := bne_iff_ne.2 (by omega)
      simp only [hb]
      apply Ev.step
      · intro k
        rw [minstrelref01_Kind.j0]
      rw [decide_eq_true (show 9218868437227405312 < r by omega)]
      simp only [if_true]
      exact Ev.now _
  · simp only [if_neg (show ¬ (e : Int) = 2047 by omega)]
    apply Ev.step
    · intro k
      rw [minstrelref01_Kind.j0]
    rw [decide_eq_false (show ¬ 9218868437227405312 < r by omega), decide_eq_false (show ¬ r = 9218868437227405312 by omega)]
    simp only [Bool.false_eq_true, if_false, if_neg (show ¬ (e : Int) = 2047 by omega)]
    by_cases h3 : e = 0
    · subst h3
      simp only [if_pos (show ((0 : Nat) : Int) = 0 from rfl)]
      apply Ev.step
      · intro k
        rw [minstrelref01_Kind.j1]
      by_cases h4 : f = 0
      · subst h4
        rw [show (((0 : Nat) : Int) == 0) = true from rfl]
        simp only [if_true, if_pos (show r = 0 by omega)]
        exact Ev.now _
      · rw [show ((f : Int) == 0) = false from beq_eq_false_iff_ne.2 (by omega)]
        simp only [Bool.false_eq_true, if_false, if_pos (show ((0 : Nat) : Int) = 0 from rfl), if_neg (show ¬ r = 0 by omega), if_pos (show r < 4503599627370496 by omega)]
        exact Ev.now _
    · simp only [if_neg (show ¬ (e : Int) = 0 by omega)]
      apply Ev.step
      · intro k
        rw [minstrelref01_Kind.j1]
      simp only [Bool.false_eq_true, if_false, if_neg (show ¬ (e : Int) = 0 by omega), if_neg (show ¬ r = 0 by omega), if_neg (show ¬ r < 4503599627370496 by omega)]
      exact Ev.now _
theorem kind_nan (n : Nat) : kindV n = 4 ↔ nanB n = true := by
  unfold kindV
  split
  · simp [*]
  · rename_i h
    constructor
    · intro g
      split at g
      · exact absurd g (by decide)
      · split at g
        · exact absurd g (by decide)
        · split at g <;> exact absurd g (by decide)
    · intro g
      exact absurd g h
theorem nat_of {a : Int} (h : 0 ≤ a ∧ a < 18446744073709551616) : ∃ n : Nat, a = (n : Int) ∧ n < 18446744073709551616 ∧ a.toNat = n := ⟨a.toNat, by omega, by omega, rfl⟩
theorem Canon_ev (a : Int) (h : 0 ≤ a ∧ a < 18446744073709551616) : Ev (fun k => minstrelref01_Canon.f k a) (canonV a) := by
  obtain ⟨n, rfl, hn, e⟩ := nat_of h
  delta minstrelref01_Canon.f
  refine Ev.bind (Kind_ev n hn) ?_
  unfold canonV canonM
  rw [e]
  by_cases hk : kindV n = 4
  · simp only [if_pos hk, if_pos ((kind_nan n).1 hk), minstrelref01_Nan.f, Option.bind_some]
    exact Ev.now _
  · simp only [if_neg hk, if_neg (show ¬ nanB n = true from fun g => hk ((kind_nan n).2 g))]
    exact Ev.now _
theorem refNormal_ev (k n : Int) (s : ByteArray) (o : Int) (hn : 0 ≤ n ∧ n < 18446744073709551616) : Ev (fun j => minstrelref08_Normal.f j k n s o) (normV (k, n, s, o)) := by
  delta minstrelref08_Normal.f
  unfold normV
  by_cases h3 : k = 3
  · subst h3
    simp only [if_true, if_neg (show ¬ (3 : Int) = 1 by decide), if_neg (show ¬ (3 : Int) = 2 by decide)]
    exact Ev.bind (Canon_ev n hn) (Ev.now _)
  · simp only [if_neg h3]
    by_cases h4 : k = 4
    · subst h4
      simp only [if_true, if_neg (show ¬ (4 : Int) = 1 by decide), if_neg (show ¬ (4 : Int) = 2 by decide)]
      exact Ev.now _
    · simp only [if_neg h4]
      by_cases h5 : k ≥ 5
      · simp only [if_pos h5, if_neg (show ¬ k = 1 by omega), if_neg (show ¬ k = 2 by omega)]
        apply Ev.step
        · intro j
          rw [minstrelref08_Normal.j0]
        by_cases h8 : k ≤ 8
        · simp only [decide_eq_true h8, if_true, if_pos (show 5 ≤ k ∧ k ≤ 8 from ⟨h5, h8⟩)]
          exact Ev.now _
        · simp only [decide_eq_false h8, Bool.false_eq_true, if_false, if_neg (show ¬ (5 ≤ k ∧ k ≤ 8) by omega), if_neg (show ¬ k = 1 by omega), if_neg (show ¬ k = 2 by omega)]
          exact Ev.now _
      · simp only [if_neg h5, if_neg (show ¬ (5 ≤ k ∧ k ≤ 8) by omega)]
        apply Ev.step
        · intro j
          rw [minstrelref08_Normal.j0]
        simp only [Bool.false_eq_true, if_false]
        by_cases h1 : k = 1
        · subst h1
          simp only [if_true]
          exact Ev.now _
        · simp only [if_neg h1]
          by_cases h2 : k = 2
          · subst h2
            simp only [if_true]
            exact Ev.now _
          · simp only [if_neg h2]
            exact Ev.now _
abbrev tv (v : S98) : Vl := (v.f0, v.f1, v.f2, v.f3)
theorem normM_tv (v : S98) : tv (normM v) = normV (tv v) := by
  unfold normM normV
  by_cases h1 : v.f0 = 1
  · simp [h1, tv]
  by_cases h2 : v.f0 = 2
  · simp [h2, tv]
  by_cases h3 : v.f0 = 3
  · simp [h3, tv]
  by_cases h4 : v.f0 = 4
  · simp [h4, tv]
  by_cases h5 : 5 ≤ v.f0 ∧ v.f0 ≤ 8
  · simp [h1, h2, h3, h4, h5, tv]
  · simp [h1, h2, h3, h4, h5, tv]
theorem norm_ev (v : S98) (h : wordV v) : Ev (fun j => minstrelref08_Normal.f j v.f0 v.f1 v.f2 v.f3) (tv (normM v)) := by
  rw [normM_tv]
  exact refNormal_ev _ _ _ _ h
theorem uses_ev (op : Int) (h : isM op = true) : Ev (fun k => minstrelref13_Uses.f k op) (usesM op) := by
  unfold isM at h
  simp only [Bool.and_eq_true, decide_eq_true_eq] at h
  have hall : ∀ n : Fin 38, minstrelref13_Uses.f 5 (n.val : Int) = some (usesM (n.val : Int)) := by decide +kernel
  have := hall ⟨op.toNat, by omega⟩
  rw [show ((⟨op.toNat, by omega⟩ : Fin 38).val : Int) = op by simp; omega] at this
  exact Ev.of (fun k => minstrelref13_Uses.mono op k) this
theorem oper_f (i : S36) (k : Nat) (hk : k < 3) : minstrelref13_operand.f i.f0 i.f1 i.f2 i.f3 (k : Int) = some (operM i k) := by
  unfold minstrelref13_operand.f operM
  match k, hk with
  | 0, _ => rfl
  | 1, _ => rfl
  | 2, _ => rfl
def mostR (p : S27) (c : Int) : Int :=
  if c = 82 then p.f1 else if c = 75 then (p.f4.length : Int) else if c = 85 then (p.f2.length : Int) else if c = 80 then (p.f5.length : Int) else if c = 79 then (p.f3.length : Int)
  else if c = 78 then 31 else 0
def operR (p : S27) (i : S36) (u : ByteArray) (k : Nat) : Bool := decide (0 ≤ operM i k) && decide (operM i k < mostR p (bt u (k : Int)))
def lastR (p : S27) (i : S36) : Bool := (i.f0 != 32 || decide (i.f2 < wrap64 (p.f1 - i.f1))) && ((i.f0 != 36 && i.f0 != 37) || decide (i.f1 < wrap64 (p.f1 - 2)))
theorem can_loop (p : S27) (i : S36) (u : ByteArray) (hu : u.size ≤ 3) : ∀ (m n : Nat), n + m = u.size → ∀ b : Bool, b = ((List.range' n m).all (operR p i u) && lastR p i) →
    Ev (fun k => minstrelref13_can.l0 k u (n : Int) p.f0 p.f1 p.f2 p.f3 p.f4 p.f5 i.f0 i.f1 i.f2 i.f3) b
  | 0, n, hn, b, hb => by
    refine Ev.step (f := fun k => some b) (fun k => ?_) (Ev.now _)
    rw [minstrelref13_can.l0, if_neg (by omega), hb]
    simp only [List.range'_zero, List.all_nil, Bool.true_and]
    unfold lastR
    by_cases h1 : i.f0 = 32
    · rw [if_pos h1]
      by_cases h2 : i.f2 ≥ wrap64 (p.f1 - i.f1)
      · have hd : decide (i.f2 < wrap64 (p.f1 - i.f1)) = false := decide_eq_false (by omega)
        rw [if_pos h2, hd]; simp [h1]
      · have hd : decide (i.f2 < wrap64 (p.f1 - i.f1)) = true := decide_eq_true (by omega)
        rw [if_neg h2, if_neg (show ¬ i.f0 = 36 by omega), if_neg (show ¬ i.f0 = 37 by omega), hd]; simp [h1]
    · rw [if_neg h1]
      by_cases h3 : i.f0 = 36
      · rw [if_pos h3]; simp [h3]
      · rw [if_neg h3]
        by_cases h4 : i.f0 = 37
        · rw [if_pos h4]; simp [h4]
        · rw [if_neg h4]; simp [h1, h3, h4]
  | m + 1, n, hn, b, hb => by
    have hnu : n < u.size := by omega
    have e4 : wrap64 ((n : Int) + 1) = ((n + 1 : Nat) : Int) := wrap64_in _ (by omega) (by omega)
    have hop := oper_f i n (by omega)
    rw [List.range'_succ, List.all_cons, Bool.and_assoc] at hb
    have hrec := fun b' hb' => can_loop p i u hu m (n + 1) (by omega) b' hb'
    have key : ∀ (most : Int), mostR p (bt u (n : Int)) = most → Ev (fun k => if operM i n < 0 then some false else (if operM i n ≥ most then some false else minstrelref13_can.l0 k u ((n + 1 : Nat) : Int) p.f0 p.f1 p.f2 p.f3 p.f4 p.f5 i.f0 i.f1 i.f2 i.f3)) b := by
      intro most hm
      have hor : operR p i u n = (decide (0 ≤ operM i n) && decide (operM i n < most)) := by unfold operR; rw [hm]
      by_cases h1 : operM i n < 0
      · simp only [if_pos h1]
        rw [hb, hor, decide_eq_false (by omega)]
        exact Ev.now _
      · simp only [if_neg h1]
        by_cases h2 : operM i n ≥ most
        · simp only [if_pos h2]
          rw [hb, hor, decide_eq_false (show ¬ operM i n < most by omega), Bool.and_false]
          exact Ev.now _
        · simp only [if_neg h2]
          exact hrec b (by rw [hb, hor, decide_eq_true (by omega), decide_eq_true (show operM i n < most by omega)]; rfl)
    have hstep : ∀ k, minstrelref13_can.l0 (k + 1) u (n : Int) p.f0 p.f1 p.f2 p.f3 p.f4 p.f5 i.f0 i.f1 i.f2 i.f3 = (if operM i n < 0 then some false else (if operM i n ≥ mostR p (bt u (n : Int)) then some false else minstrelref13_can.l0 k u ((n + 1 : Nat) : Int) p.f0 p.f1 p.f2 p.f3 p.f4 p.f5 i.f0 i.f1 i.f2 i.f3)) := fun k => by
      rw [minstrelref13_can.l0, if_pos (by omega), hop, e4]
      simp only [Option.bind_some]
      rw [if_pos (by omega)]
      unfold mostR
      by_cases c1 : bt u (n : Int) = 82
      · simp [c1]
      by_cases c2 : bt u (n : Int) = 75
      · simp [c2]
      by_cases c3 : bt u (n : Int) = 85
      · simp [c3]
      by_cases c4 : bt u (n : Int) = 80
      · simp [c4]
      by_cases c5 : bt u (n : Int) = 79
      · simp [c5]
      by_cases c6 : bt u (n : Int) = 78
      · simp [c6]
      · simp [c1, c2, c3, c4, c5, c6]
    exact Ev.step hstep (key _ rfl)
def canR (p : S27) (i : S36) : Bool := isM i.f0 && ((List.range (usesM i.f0).size).all (operR p i (usesM i.f0)) && lastR p i)
theorem is_f (op : Int) : minstrelref13_Is.f op = some (isM op) := by
  unfold minstrelref13_Is.f isM
  by_cases h : op ≥ 0
  · rw [if_pos h, decide_eq_true (show 0 ≤ op from h), Bool.true_and]
    by_cases h2 : op ≤ 37
    · rw [decide_eq_true h2, decide_eq_true (by omega)]
    · rw [decide_eq_false h2, decide_eq_false (by omega)]
  · rw [if_neg h, decide_eq_false (show ¬ 0 ≤ op from h)]; rfl
theorem canR_ev (p : S27) (i : S36) : Ev (fun k => minstrelref13_can.f k p.f0 p.f1 p.f2 p.f3 p.f4 p.f5 i.f0 i.f1 i.f2 i.f3) (canR p i) := by
  delta minstrelref13_can.f
  unfold canR
  rw [is_f]
  simp only [Option.bind_some]
  cases h : isM i.f0 with
  | false => simp only [Bool.false_eq_true, if_false, Bool.false_and]; exact Ev.now _
  | true =>
    simp only [if_true, Bool.true_and]
    refine Ev.bind (uses_ev _ h) ?_
    refine can_loop p i _ (uses_small _) (usesM i.f0).size 0 (by omega) _ ?_
    rw [List.range_eq_range']
theorem canR_canM (p : S27) (i : S36) (h0 : -9223372036854775808 ≤ p.f1) (h1 : p.f1 ≤ 9223372036854775807) : canR p i = canM p i := by
  unfold canR canM
  cases hi : isM i.f0 with
  | false => rfl
  | true =>
    simp only [Bool.true_and]
    have hh := hi
    unfold isM at hh
    simp only [Bool.and_eq_true, decide_eq_true_eq] at hh
    by_cases h32 : i.f0 = 32
    · have hu : usesM i.f0 = ⟨#[82, 78]⟩ := by rw [h32]; decide
      rw [hu]
      have e0 : bt (⟨#[82, 78]⟩ : ByteArray) ((0 : Nat) : Int) = 82 := by decide
      have e1 : bt (⟨#[82, 78]⟩ : ByteArray) ((1 : Nat) : Int) = 78 := by decide
      have hr : List.range (⟨#[82, 78]⟩ : ByteArray).size = [0, 1] := by decide
      rw [hr]
      simp only [List.all_cons, List.all_nil, Bool.and_true]
      unfold operR operOk lastR
      rw [e0, e1]
      have m0 : mostR p 82 = p.f1 := rfl
      have m1 : mostR p 78 = 31 := rfl
      have m2 : mostM p i 82 = p.f1 := rfl
      have m3 : mostM p i 78 = min 31 (wrap64 (p.f1 - i.f1)) := rfl
      have o0 : operM i 0 = i.f1 := rfl
      have o1 : operM i 1 = i.f2 := rfl
      rw [m0, m1, m2, m3, o0, o1]
      by_cases a : 0 ≤ i.f1 ∧ i.f1 < p.f1
      · rw [decide_eq_true a.1, decide_eq_true a.2]
        simp only [h32]
        by_cases b0 : 0 ≤ i.f2
        · by_cases b1 : i.f2 < 31
          · by_cases b2 : i.f2 < wrap64 (p.f1 - i.f1)
            · rw [decide_eq_true b0, decide_eq_true b1, decide_eq_true b2, decide_eq_true (show i.f2 < min 31 (wrap64 (p.f1 - i.f1)) by omega)]; rfl
            · rw [decide_eq_true b0, decide_eq_true b1, decide_eq_false b2, decide_eq_false (show ¬ i.f2 < min 31 (wrap64 (p.f1 - i.f1)) by omega)]; rfl
          · rw [decide_eq_true b0, decide_eq_false b1, decide_eq_false (show ¬ i.f2 < min 31 (wrap64 (p.f1 - i.f1)) by omega)]; rfl
        · rw [decide_eq_false b0]; rfl
      · have : (decide (0 ≤ i.f1) && decide (i.f1 < p.f1)) = false := by
          by_cases a1 : 0 ≤ i.f1
          · rw [decide_eq_false (show ¬ i.f1 < p.f1 by omega), Bool.and_false]
          · rw [decide_eq_false a1]; rfl
        rw [this]
        rfl
    · have hop : ∀ k, k < (usesM i.f0).size → operR p i (usesM i.f0) k = operOk p i (usesM i.f0) k := by
        intro k hk
        unfold operR operOk
        have hc : bt (usesM i.f0) (k : Int) ≠ 78 := by
          have hall : ∀ n : Fin 38, n.val ≠ 32 → ∀ k : Fin 3, bt (usesM (n.val : Int)) ((k.val : Nat) : Int) ≠ 78 := by decide +kernel
          have := hall ⟨i.f0.toNat, by omega⟩ (by show i.f0.toNat ≠ 32; omega) ⟨k, by have := uses_small i.f0; omega⟩
          rwa [show ((⟨i.f0.toNat, by omega⟩ : Fin 38).val : Int) = i.f0 by simp; omega] at this
        have : mostR p (bt (usesM i.f0) (k : Int)) = mostM p i (bt (usesM i.f0) (k : Int)) := by unfold mostR mostM; simp only [if_neg hc]
        rw [this]
      have hl : lastR p i = ((i.f0 != 36 && i.f0 != 37) || decide (i.f1 < wrap64 (p.f1 - 2))) := by unfold lastR; simp [h32]
      rw [hl]
      congr 1
      rw [Bool.eq_iff_iff, List.all_eq_true, List.all_eq_true]
      constructor
      · intro h k hk; rw [← hop k (List.mem_range.1 hk)]; exact h k hk
      · intro h k hk; rw [hop k (List.mem_range.1 hk)]; exact h k hk
theorem can_ev (p : S27) (i : S36) (h0 : -9223372036854775808 ≤ p.f1) (h1 : p.f1 ≤ 9223372036854775807) : Ev (fun k => minstrelref13_can.f k p.f0 p.f1 p.f2 p.f3 p.f4 p.f5 i.f0 i.f1 i.f2 i.f3) (canM p i) := by
  rw [← canR_canM p i h0 h1]
  exact canR_ev p i
end Go.Proofs.YtlhnkfheojlghaaDoor.Pure
end
section
namespace Go.Proofs.YtlhnkfheojlghaaDoor.Pure
open Go.RowKit Go.Proofs.YtlhnkfheojlghaaDoor.Pr Go.Proofs.YtlhnkfheojlghaaDoorW.PrintWords Go.Proofs.YtlhnkfheojlghaaDoorW.PrintLast Go.Proofs.YtlhnkfheojlghaaDoorW.PrintMore
theorem rd98 (L : List S98) (j : Nat) (h : j < L.length) : rd_T98 L (j : Int) = L[j] := by simp [rd_T98, h]
theorem rd94 (L : List S94) (j : Nat) (h : j < L.length) : rd_T94 L (j : Int) = L[j] := by simp [rd_T94, h]
theorem rd36 (L : List S36) (j : Nat) (h : j < L.length) : rd_T36 L (j : Int) = L[j] := by simp [rd_T36, h]
theorem any_drop {α : Type} (f : α → Bool) (l : List α) (n : Nat) (h : n < l.length) : (l.drop n).any f = (f l[n] || (l.drop (n + 1)).any f) := by
  rw [List.drop_eq_getElem_cons h, List.any_cons]
theorem code_loop (p : S27) (hl : p.f3.length ≤ 9223372036854775806) (h0 : -9223372036854775808 ≤ p.f1) (h1 : p.f1 ≤ 9223372036854775807) : ∀ (m n : Nat), n + m = p.f3.length →
    Ev (fun k => minstrelref13_alone.l2 k (n : Int) p.f0 p.f1 p.f2 p.f3 p.f4 p.f5) (if (p.f3.drop n).any (fun i => !canM p i) = true then 1 else 0)
  | 0, n, hn => by
    refine Ev.step (f := fun k => some 0) (fun k => ?_) ?_
    · rw [minstrelref13_alone.l2, if_neg (by omega)]
    · rw [List.drop_eq_nil_of_le (by omega)]
      exact Ev.now _
  | m + 1, n, hn => by
    have hna : n < p.f3.length := by omega
    have e4 : wrap64 ((n : Int) + 1) = ((n + 1 : Nat) : Int) := wrap64_in _ (by omega) (by omega)
    refine Ev.step (f := fun k => (minstrelref13_can.f k p.f0 p.f1 p.f2 p.f3 p.f4 p.f5 (p.f3[n].f0) (p.f3[n].f1) (p.f3[n].f2) (p.f3[n].f3)).bind fun t => (if t = true then (minstrelref13_alone.l2 k ((n + 1 : Nat) : Int) p.f0 p.f1 p.f2 p.f3 p.f4 p.f5) else (some 1))) (fun k => ?_) (Ev.bind (can_ev p p.f3[n] h0 h1) ?_)
    · rw [minstrelref13_alone.l2, if_pos (by omega), if_pos (by omega), rd36 _ n hna, e4]
    · rw [any_drop _ _ n hna]
      cases hc : canM p p.f3[n] with
      | true => simp only [if_true, Bool.not_true, Bool.false_or]; exact code_loop p hl h0 h1 m (n + 1) (by omega)
      | false => simp only [Bool.false_eq_true, if_false, Bool.not_false, Bool.true_or, if_true]; exact Ev.now _
theorem ups_loop (p q : S27) (hl : p.f2.length ≤ 9223372036854775806) (r : Int) (hr : Ev (fun k => minstrelref13_alone.l2 k 0 p.f0 p.f1 p.f2 p.f3 p.f4 p.f5) r) : ∀ (m n : Nat), n + m = p.f2.length →
    Ev (fun k => minstrelref13_alone.l1 k (n : Int) p.f0 p.f1 p.f2 p.f3 p.f4 p.f5 q.f0 q.f1 q.f2 q.f3 q.f4 q.f5) (if (p.f2.drop n).any (badU q.f1 (q.f2.length : Int)) = true then 1 else r)
  | 0, n, hn => by
    refine Ev.step (f := fun k => minstrelref13_alone.l2 k 0 p.f0 p.f1 p.f2 p.f3 p.f4 p.f5) (fun k => ?_) ?_
    · rw [minstrelref13_alone.l1, if_neg (by omega)]
    · rw [List.drop_eq_nil_of_le (by omega)]
      exact hr
  | m + 1, n, hn => by
    have hna : n < p.f2.length := by omega
    have e4 : wrap64 ((n : Int) + 1) = ((n + 1 : Nat) : Int) := wrap64_in _ (by omega) (by omega)
    have hrec := ups_loop p q hl r hr m (n + 1) (by omega)
    rw [any_drop _ _ n hna]
    have key : ∀ k, minstrelref13_alone.l1 (k + 1) (n : Int) p.f0 p.f1 p.f2 p.f3 p.f4 p.f5 q.f0 q.f1 q.f2 q.f3 q.f4 q.f5 = if badU q.f1 (q.f2.length : Int) p.f2[n] = true then some 1 else minstrelref13_alone.l1 k ((n + 1 : Nat) : Int) p.f0 p.f1 p.f2 p.f3 p.f4 p.f5 q.f0 q.f1 q.f2 q.f3 q.f4 q.f5 := fun k => by
      rw [minstrelref13_alone.l1, if_pos (by omega), if_pos (by omega), rd94 _ n hna, e4]
      unfold badU
      cases ho : p.f2[n].f0 with
      | true =>
        simp only [if_true, Bool.true_and, Bool.not_true, Bool.false_and, Bool.or_false]
        by_cases a : p.f2[n].f1 < 0
        · rw [if_pos a, decide_eq_true a]; rfl
        · rw [if_neg a, decide_eq_false a, Bool.false_or]
          by_cases b : p.f2[n].f1 ≥ q.f1
          · rw [if_pos b, decide_eq_true (show q.f1 ≤ p.f2[n].f1 from b)]; rfl
          · rw [if_neg b, decide_eq_false (show ¬ q.f1 ≤ p.f2[n].f1 from b)]; rfl
      | false =>
        simp only [Bool.false_eq_true, if_false, Bool.false_and, Bool.not_false, Bool.true_and, Bool.false_or]
        by_cases a : p.f2[n].f1 < 0
        · rw [if_pos a, decide_eq_true a]; rfl
        · rw [if_neg a, decide_eq_false a, Bool.false_or]
          by_cases b : p.f2[n].f1 ≥ (q.f2.length : Int)
          · rw [if_pos b, decide_eq_true (show (q.f2.length : Int) ≤ p.f2[n].f1 from b)]; rfl
          · rw [if_neg b, decide_eq_false (show ¬ (q.f2.length : Int) ≤ p.f2[n].f1 from b)]; rfl
    refine Ev.step key ?_
    cases hb : badU q.f1 (q.f2.length : Int) p.f2[n] with
    | true => simp only [if_true, Bool.true_or]; exact Ev.now _
    | false => simp only [Bool.false_eq_true, if_false, Bool.false_or]; exact hrec
theorem ends_step (p q : S27) (hl : (p.f3.length : Int) ≤ 9223372036854775807) (hn : p.f3 ≠ []) (r : Int) (hr : Ev (fun k => minstrelref13_alone.l1 k 0 p.f0 p.f1 p.f2 p.f3 p.f4 p.f5 q.f0 q.f1 q.f2 q.f3 q.f4 q.f5) r) (n : Nat) (hnn : ¬ (n : Int) < (p.f4.length : Int)) :
    Ev (fun k => minstrelref13_alone.l0 k (n : Int) p.f0 p.f1 p.f2 p.f3 p.f4 p.f5 q.f0 q.f1 q.f2 q.f3 q.f4 q.f5) (if endsM p.f3 = true then r else 1) := by
  rcases p.f3.eq_nil_or_concat with h | ⟨l, x, h⟩
  · exact absurd h hn
  · rw [List.concat_eq_append] at h
    have e1 : (p.f3.length : Int) = (l.length : Int) + 1 := by rw [h]; simp
    have e2 : wrap64 ((p.f3.length : Int) - 1) = (l.length : Int) := by rw [wrap64_in _ (by omega) (by omega)]; omega
    have e3 : rd_T36 p.f3 (l.length : Int) = x := by rw [h]; simp [rd_T36]
    have e5 : endsM p.f3 = (decide (x.f0 = 29) || (decide (x.f0 = 33) || decide (x.f0 = 34))) := by unfold endsM; rw [h]; simp
    have hj : ∀ b : Bool, Ev (fun k => minstrelref13_alone.j2 k b p.f0 p.f1 p.f2 p.f3 p.f4 p.f5 q.f0 q.f1 q.f2 q.f3 q.f4 q.f5) (if b = true then 1 else r) := fun b => by
      refine Ev.step (f := fun k => if b = true then some 1 else minstrelref13_alone.l1 k 0 p.f0 p.f1 p.f2 p.f3 p.f4 p.f5 q.f0 q.f1 q.f2 q.f3 q.f4 q.f5) (fun k => ?_) ?_
      · rw [minstrelref13_alone.j2]
      · cases b with
        | true => simp only [if_true]; exact Ev.now _
        | false => simp only [Bool.false_eq_true, if_false]; exact hr
    rw [e5]
    by_cases c1 : x.f0 = 29
    · refine Ev.step (f := fun k => minstrelref13_alone.j2 k false p.f0 p.f1 p.f2 p.f3 p.f4 p.f5 q.f0 q.f1 q.f2 q.f3 q.f4 q.f5) (fun k => ?_) ?_
      · rw [minstrelref13_alone.l0, if_neg hnn, e2, if_pos (by omega), if_pos (by omega), e3, if_pos c1]
      · have := hj false; simpa [c1] using this
    · by_cases c2 : x.f0 = 33
      · refine Ev.step (f := fun k => minstrelref13_alone.j2 k false p.f0 p.f1 p.f2 p.f3 p.f4 p.f5 q.f0 q.f1 q.f2 q.f3 q.f4 q.f5) (fun k => ?_) ?_
        · rw [minstrelref13_alone.l0, if_neg hnn, e2, if_pos (by omega), if_pos (by omega), e3, if_neg c1, if_pos c2]
        · have := hj false; simpa [c2] using this
      · refine Ev.step (f := fun k => minstrelref13_alone.j2 k (x.f0 != 34) p.f0 p.f1 p.f2 p.f3 p.f4 p.f5 q.f0 q.f1 q.f2 q.f3 q.f4 q.f5) (fun k => ?_) ?_
        · rw [minstrelref13_alone.l0, if_neg hnn, e2, if_pos (by omega), if_pos (by omega), e3, if_neg c1, if_neg c2]
        · have := hj (x.f0 != 34)
          by_cases c3 : x.f0 = 34
          · simpa [c3] using this
          · simpa [c1, c2, c3] using this
theorem consts_loop (p q : S27) (hl : p.f4.length ≤ 9223372036854775806) (hw : ∀ v ∈ p.f4, wordV v) (r : Int) (hr : Ev (fun k => minstrelref13_alone.l0 k (p.f4.length : Int) p.f0 p.f1 p.f2 p.f3 p.f4 p.f5 q.f0 q.f1 q.f2 q.f3 q.f4 q.f5) r) : ∀ (m n : Nat), n + m = p.f4.length →
    Ev (fun k => minstrelref13_alone.l0 k (n : Int) p.f0 p.f1 p.f2 p.f3 p.f4 p.f5 q.f0 q.f1 q.f2 q.f3 q.f4 q.f5) (if (p.f4.drop n).any badC = true then 1 else r)
  | 0, n, hn => by
    rw [List.drop_eq_nil_of_le (by omega)]
    obtain rfl : n = p.f4.length := by omega
    exact hr
  | m + 1, n, hn => by
    have hna : n < p.f4.length := by omega
    have e4 : wrap64 ((n : Int) + 1) = ((n + 1 : Nat) : Int) := wrap64_in _ (by omega) (by omega)
    have hrec := consts_loop p q hl hw r hr m (n + 1) (by omega)
    have hwv := hw p.f4[n] (List.getElem_mem _)
    have hne := norm_ev p.f4[n] hwv
    rw [any_drop _ _ n hna]
    have hstep : ∀ k, minstrelref13_alone.l0 (k + 1) (n : Int) p.f0 p.f1 p.f2 p.f3 p.f4 p.f5 q.f0 q.f1 q.f2 q.f3 q.f4 q.f5 = (if p.f4[n].f0 < 0 then some 1 else (if p.f4[n].f0 > 4 then some 1 else ((minstrelref08_Normal.f k (p.f4[n].f0) (p.f4[n].f1) (p.f4[n].f2) (p.f4[n].f3)).bind fun bt => (if (!(bt.1 == p.f4[n].f0) || (!(bt.2.1 == p.f4[n].f1) || (!(bt.2.2.1.toList == p.f4[n].f2.toList) || (!(bt.2.2.2 == p.f4[n].f3))))) = true then (some 1) else (minstrelref13_alone.l0 k ((n + 1 : Nat) : Int) p.f0 p.f1 p.f2 p.f3 p.f4 p.f5 q.f0 q.f1 q.f2 q.f3 q.f4 q.f5))))) := fun k => by
      rw [minstrelref13_alone.l0, if_pos (by omega), if_pos (by omega), rd98 _ n hna, e4]
    generalize p.f4[n] = v at hwv hne hstep
    refine Ev.step hstep ?_
    unfold badC
    by_cases a : v.f0 < 0
    · simp only [if_pos a]
      have : (normM v).f0 = 0 := by
        unfold normM
        rw [if_neg (by omega), if_neg (by omega), if_neg (by omega), if_neg (by omega)]
      have hs : sameV (normM v) v = false := by
        unfold sameV
        rw [this, show ((0 : Int) == v.f0) = false from beq_eq_false_iff_ne.2 (by omega)]; rfl
      rw [hs]
      simp only [Bool.not_false, Bool.or_true, Bool.true_or, if_true]
      exact Ev.now _
    · simp only [if_neg a]
      by_cases b : v.f0 > 4
      · simp only [if_pos b]
        rw [decide_eq_true (show 4 < v.f0 from b)]
        simp only [Bool.true_or, if_true]
        exact Ev.now _
      · simp only [if_neg b]
        rw [decide_eq_false (show ¬ 4 < v.f0 from b), Bool.false_or]
        refine Ev.bind hne ?_
        have hb : (!((normM v).f0 == v.f0) || (!((normM v).f1 == v.f1) || (!((normM v).f2.toList == v.f2.toList) || (!((normM v).f3 == v.f3))))) = !sameV (normM v) v := by
          unfold sameV
          simp only [Bool.not_and]
        simp only [hb]
        cases hs : sameV (normM v) v with
        | true => simp only [Bool.not_true, Bool.false_eq_true, if_false, Bool.false_or]; exact hrec
        | false => simp only [Bool.not_false, if_true, Bool.true_or]; exact Ev.now _
end Go.Proofs.YtlhnkfheojlghaaDoor.Pure
end
section
namespace Go.Proofs.YtlhnkfheojlghaaDoor.Pure
open Go.RowKit Go.Proofs.YtlhnkfheojlghaaDoor.Pr Go.Proofs.YtlhnkfheojlghaaDoorW.PrintWords Go.Proofs.YtlhnkfheojlghaaDoorW.PrintLast Go.Proofs.YtlhnkfheojlghaaDoorW.PrintMore
theorem all_any {α : Type} (f : α → Bool) (l : List α) : l.any (fun i => !f i) = !l.all f := by
  induction l with
  | nil => rfl
  | cons x l ih => rw [List.any_cons, List.all_cons, ih, Bool.not_and]
theorem alone_l0 (p q : S27) (hw : ∀ v ∈ p.f4, wordV v) (hl : lenP p) (h0 : -9223372036854775808 ≤ p.f1) (h1 : p.f1 ≤ 9223372036854775807) (hn : p.f3 ≠ []) :
    Ev (fun k => minstrelref13_alone.l0 k 0 p.f0 p.f1 p.f2 p.f3 p.f4 p.f5 q.f0 q.f1 q.f2 q.f3 q.f4 q.f5) (if p.f4.any badC = true then 1 else if endsM p.f3 = true then (if p.f2.any (badU q.f1 (q.f2.length : Int)) = true then 1 else (if p.f3.all (canM p) = true then 0 else 1)) else 1) := by
  rw [lenP_eq] at hl
  obtain ⟨l2, l3, l4, l5, hl5⟩ := hl
  have c0 := code_loop p (by omega) h0 h1 p.f3.length 0 (by omega)
  have c1 := ups_loop p q (by omega) _ c0 p.f2.length 0 (by omega)
  have c2 := ends_step p q (by omega) hn _ c1 p.f4.length (by omega)
  have c3 := consts_loop p q (by omega) hw _ c2 p.f4.length 0 (by omega)
  simp only [List.drop_zero, all_any] at c3
  have e : (if (!p.f3.all (canM p)) = true then (1 : Int) else 0) = if p.f3.all (canM p) = true then 0 else 1 := by
    cases p.f3.all (canM p) <;> rfl
  rw [e] at c3
  exact c3
theorem alone_ev (p q : S27) (top : Bool) (hw : ∀ v ∈ p.f4, wordV v) (hl : lenP p) (h1 : p.f1 ≤ 9223372036854775807) :
    Ev (fun k => minstrelref13_alone.f k p.f0 p.f1 p.f2 p.f3 p.f4 p.f5 q.f0 q.f1 q.f2 q.f3 q.f4 q.f5 top) (if selfBad p (if top = true then none else some (q.f1, (q.f2.length : Int))) = true then 1 else if p.f3.all (canM p) = true then 0 else 1) := by
  have hj : ∀ (b : Bool) (r : Int), (b = false → Ev (fun k => minstrelref13_alone.l0 k 0 p.f0 p.f1 p.f2 p.f3 p.f4 p.f5 q.f0 q.f1 q.f2 q.f3 q.f4 q.f5) r) → Ev (fun k => minstrelref13_alone.j0 k b p.f0 p.f1 p.f2 p.f3 p.f4 p.f5 q.f0 q.f1 q.f2 q.f3 q.f4 q.f5) (if b = true then 1 else r) := fun b r hr => by
    refine Ev.step (f := fun k => if b = true then some 1 else minstrelref13_alone.l0 k 0 p.f0 p.f1 p.f2 p.f3 p.f4 p.f5 q.f0 q.f1 q.f2 q.f3 q.f4 q.f5) (fun k => ?_) ?_
    · rw [minstrelref13_alone.j0]
    · cases b with
      | true => simp only [if_true]; exact Ev.now _
      | false => simp only [Bool.false_eq_true, if_false]; exact hr rfl
  have ht := hj true 0 (fun h => by cases h)
  simp only [if_true] at ht
  delta minstrelref13_alone.f
  unfold selfBad
  by_cases a : p.f0 < 0
  · simp only [if_pos a, decide_eq_true a, Bool.true_or, if_true]; exact ht
  simp only [if_neg a, decide_eq_false a, Bool.false_or]
  by_cases b : 30 < p.f0
  · simp only [if_pos (show p.f0 > 30 from b), decide_eq_true b, Bool.true_or, if_true]; exact ht
  simp only [if_neg (show ¬ p.f0 > 30 from b), decide_eq_false b, Bool.false_or]
  by_cases c : p.f1 < p.f0
  · simp only [if_pos (show p.f0 > p.f1 from c), decide_eq_true c, Bool.true_or, if_true]; exact ht
  simp only [if_neg (show ¬ p.f0 > p.f1 from c), decide_eq_false c, Bool.false_or]
  by_cases d : p.f3 = []
  · have e0 : endsM p.f3 = false := by rw [d]; rfl
    simp only [if_pos (show (p.f3.length : Int) = 0 by rw [d]; rfl), e0, Bool.not_false, Bool.true_or, Bool.or_true, if_true]
    exact ht
  simp only [if_neg (show ¬ (p.f3.length : Int) = 0 from fun h => d (List.length_eq_zero_iff.1 (by omega)))]
  have hm := alone_l0 p q hw hl (by omega) h1 d
  cases top with
  | true =>
    simp only [if_true]
    by_cases e : p.f2 = []
    · have h0 : decide ((p.f2.length : Int) > 0) = false := by rw [e]; rfl
      have h2 : upsM p.f2 none = true := by rw [e]; rfl
      rw [e] at hm
      simp only [List.any_nil, Bool.false_eq_true, if_false] at hm
      have := hj false _ (fun _ => by rw [e]; exact hm)
      rw [h0, h2]
      simp only [Bool.false_eq_true, if_false, Bool.not_true, Bool.or_false] at this ⊢
      cases x1 : p.f4.any badC <;> cases x2 : endsM p.f3 <;> simp only [x1, x2, Bool.false_eq_true, if_false, if_true, Bool.not_true, Bool.not_false, Bool.or_false, Bool.or_true, Bool.true_or, Bool.false_or] at this ⊢ <;> exact this
    · have hpos : 0 < p.f2.length := List.length_pos_iff.2 e
      have h0 : decide ((p.f2.length : Int) > 0) = true := decide_eq_true (by omega)
      have h2 : upsM p.f2 none = false := decide_eq_false (by omega)
      rw [h0, h2]
      simp only [Bool.not_false, Bool.or_true, if_true]
      exact ht
  | false =>
    simp only [Bool.false_eq_true, if_false]
    have := hj false _ (fun _ => hm)
    have h2 : upsM p.f2 (some (q.f1, (q.f2.length : Int))) = !p.f2.any (badU q.f1 (q.f2.length : Int)) := rfl
    rw [h2]
    simp only [Bool.false_eq_true, if_false, Bool.not_not] at this ⊢
    cases x1 : p.f4.any badC <;> cases x2 : endsM p.f3 <;> cases x3 : p.f2.any (badU q.f1 (q.f2.length : Int)) <;> simp only [x1, x2, x3, Bool.false_eq_true, if_false, if_true, Bool.not_true, Bool.not_false, Bool.or_false, Bool.or_true, Bool.true_or, Bool.false_or] at this ⊢ <;> exact this
theorem check_loop (p : S27) (deep : Int) (hl : p.f5.length ≤ 140737488355328) (hd0 : 0 ≤ deep) (hd1 : deep ≤ 100)
    (ih : ∀ x ∈ p.f5, ∀ many : Int, 0 ≤ many → many ≤ 4096 → Ev (fun k => minstrelref13_check.f k x.f0 x.f1 x.f2 x.f3 x.f4 x.f5 p.f0 p.f1 p.f2 p.f3 p.f4 p.f5 (deep + 1) many) (chk x (some (p.f1, (p.f2.length : Int))) (deep + 1) many)) :
    ∀ (m n : Nat) (many : Int), n + m = p.f5.length → 0 ≤ many → many ≤ 4096 →
      Ev (fun k => minstrelref13_check.l0 k deep many (n : Int) p.f0 p.f1 p.f2 p.f3 p.f4 p.f5) (chkL (p.f5.drop n) (p.f1, (p.f2.length : Int)) (deep + 1) many)
  | 0, n, many, hn, h0, h1 => by
    refine Ev.step (f := fun k => some (many, 0)) (fun k => ?_) ?_
    · rw [minstrelref13_check.l0, if_neg (by omega)]
    · rw [List.drop_eq_nil_of_le (by omega), chkL]
      exact Ev.now _
  | m + 1, n, many, hn, h0, h1 => by
    have hna : n < p.f5.length := by omega
    have e4 : wrap64 ((n : Int) + 1) = ((n + 1 : Nat) : Int) := wrap64_in _ (by omega) (by omega)
    have e2 : wrap64 (deep + 1) = deep + 1 := wrap64_in _ (by omega) (by omega)
    have hb := chk_bound p.f5[n] (some (p.f1, (p.f2.length : Int))) (deep + 1) many h0
    refine Ev.step (f := fun k => (minstrelref13_check.f k (p.f5[n].f0) (p.f5[n].f1) (p.f5[n].f2) (p.f5[n].f3) (p.f5[n].f4) (p.f5[n].f5) p.f0 p.f1 p.f2 p.f3 p.f4 p.f5 (deep + 1) many).bind fun bt => (if bt.2 = 0 then (minstrelref13_check.l0 k deep bt.1 ((n + 1 : Nat) : Int) p.f0 p.f1 p.f2 p.f3 p.f4 p.f5) else (some (bt.1, bt.2)))) (fun k => ?_) (Ev.bind (ih _ (List.getElem_mem _) many h0 h1) ?_)
    · rw [minstrelref13_check.l0, if_pos (by omega), if_pos (by omega), rd27 _ n hna, e4, e2]
    · rw [List.drop_eq_getElem_cons hna, chkL]
      by_cases c : (chk p.f5[n] (some (p.f1, (p.f2.length : Int))) (deep + 1) many).2 = 0
      · simp only [if_pos c]
        exact check_loop p deep hl hd0 hd1 ih m (n + 1) _ (by omega) hb.1 (hb.2 c)
      · simp only [if_neg c]
        exact Ev.now _
theorem check_ev (N : Nat) : ∀ (p q : S27), SizeOf.sizeOf p ≤ N → wordsM p = true → lenP p → ∀ deep many : Int, 0 ≤ deep → deep ≤ 101 → 0 ≤ many → many ≤ 4096 →
    Ev (fun k => minstrelref13_check.f k p.f0 p.f1 p.f2 p.f3 p.f4 p.f5 q.f0 q.f1 q.f2 q.f3 q.f4 q.f5 deep many) (chk p (if (deep == 0) = true then none else some (q.f1, (q.f2.length : Int))) deep many) := by
  induction N with
  | zero => intro p q hp; exfalso; obtain ⟨f0, f1, f2, f3, f4, f5⟩ := p; simp at hp
  | succ N ih =>
    intro p q hp hw hl deep many d0 d1 m0 m1
    have hl' := hl
    rw [lenP_eq] at hl'
    obtain ⟨l2, l3, l4, l5, hl5⟩ := hl'
    have e1 : wrap64 (many + 1) = many + 1 := wrap64_in _ (by omega) (by omega)
    have ht : Ev (fun k => minstrelref13_check.j0 k deep (many + 1) true p.f0 p.f1 p.f2 p.f3 p.f4 p.f5 q.f0 q.f1 q.f2 q.f3 q.f4 q.f5) (many + 1, 2) := by
      refine Ev.step (f := fun k => some (many + 1, 2)) (fun k => ?_) (Ev.now _)
      rw [minstrelref13_check.j0, if_pos rfl]
    rw [chk_eq]
    have hf : ∀ k, minstrelref13_check.f (k + 1) p.f0 p.f1 p.f2 p.f3 p.f4 p.f5 q.f0 q.f1 q.f2 q.f3 q.f4 q.f5 deep many = minstrelref13_check.j0 k deep (many + 1) (longM p deep (many + 1)) p.f0 p.f1 p.f2 p.f3 p.f4 p.f5 q.f0 q.f1 q.f2 q.f3 q.f4 q.f5 := fun k => by
      rw [minstrelref13_check.f, e1]
      unfold longM
      by_cases a : p.f1 > 4096
      · rw [if_pos a, decide_eq_true (show 4096 < p.f1 from a)]; simp only [Bool.true_or, Bool.or_true]
      rw [if_neg a, decide_eq_false (show ¬ 4096 < p.f1 from a)]
      by_cases b : (p.f3.length : Int) > 131072
      · rw [if_pos b, decide_eq_true (show 131072 < (p.f3.length : Int) from b)]; simp only [Bool.true_or, Bool.or_true]
      rw [if_neg b, decide_eq_false (show ¬ 131072 < (p.f3.length : Int) from b)]
      by_cases c : (p.f4.length : Int) > 131072
      · rw [if_pos c, decide_eq_true (show 131072 < (p.f4.length : Int) from c)]; simp only [Bool.true_or, Bool.or_true]
      rw [if_neg c, decide_eq_false (show ¬ 131072 < (p.f4.length : Int) from c)]
      by_cases d : (p.f2.length : Int) > 60
      · rw [if_pos d, decide_eq_true (show 60 < (p.f2.length : Int) from d)]; simp only [Bool.true_or, Bool.or_true]
      rw [if_neg d, decide_eq_false (show ¬ 60 < (p.f2.length : Int) from d)]
      by_cases e : deep > 100
      · rw [if_pos e, decide_eq_true (show 100 < deep from e)]; simp only [Bool.true_or, Bool.or_true]
      rw [if_neg e, decide_eq_false (show ¬ 100 < deep from e)]
      simp only [Bool.false_or]
    refine Ev.step hf ?_
    cases hL : longM p deep (many + 1) with
    | true => simp only [if_true]; exact ht
    | false =>
      simp only [Bool.false_eq_true, if_false]
      unfold longM at hL
      simp only [Bool.or_eq_false_iff, decide_eq_false_iff_not] at hL
      obtain ⟨g0, g1, g2, g3, g4, g5⟩ := hL
      have ha := alone_ev p q (deep == 0) (words_consts hw) hl (by omega)
      refine Ev.step (f := fun k => (minstrelref13_alone.f k p.f0 p.f1 p.f2 p.f3 p.f4 p.f5 q.f0 q.f1 q.f2 q.f3 q.f4 q.f5 (deep == 0)).bind fun t => (if t = 0 then (minstrelref13_check.l0 k deep (many + 1) ((0 : Nat) : Int) p.f0 p.f1 p.f2 p.f3 p.f4 p.f5) else (some (many + 1, t)))) (fun k => ?_) (Ev.bind ha ?_)
      · rw [minstrelref13_check.j0, if_neg (by decide)]; rfl
      · cases s : selfBad p (if (deep == 0) = true then none else some (q.f1, (q.f2.length : Int))) with
        | true => simp only [if_true, if_neg (show ¬ (1 : Int) = 0 by decide)]; exact Ev.now _
        | false =>
          simp only [Bool.false_eq_true, if_false]
          cases t : p.f3.all (canM p) with
          | false => simp only [Bool.false_eq_true, if_false, if_neg (show ¬ (1 : Int) = 0 by decide)]; exact Ev.now _
          | true =>
            simp only [if_true]
            have hloop := check_loop p deep l5 d0 (by omega) (fun x hx many' h0 h1 => by
              have := ih x p (by have := sizeOf_mem hx; omega) (wordsL_mem (words_protos hw) hx) (lenL_mem hl5 hx) (deep + 1) many' (by omega) (by omega) h0 h1
              rw [show (deep + 1 == 0) = false from beq_eq_false_iff_ne.2 (by omega)] at this
              simpa using this) p.f5.length 0 (many + 1) (by omega) (by omega) (by omega)
            rw [List.drop_zero] at hloop
            exact hloop
theorem Check_ev (p : S27) (hw : wordsM p = true) (hl : lenP p) : Ev (fun k => minstrelref13_Check.f k p.f0 p.f1 p.f2 p.f3 p.f4 p.f5) (chk p none 0 0).2 := by
  have := check_ev _ p ⟨0, 0, [], [], [], []⟩ (Nat.le_refl _) hw hl 0 0 (by omega) (by omega) (by omega) (by omega)
  refine Ev.congr (f := fun k => (minstrelref13_check.f k p.f0 p.f1 p.f2 p.f3 p.f4 p.f5 0 0 [] [] [] [] 0 0).bind fun bt => (some bt.2)) (fun k => ?_) (Ev.bind this (Ev.now _))
  unfold minstrelref13_Check.f
  rfl
end Go.Proofs.YtlhnkfheojlghaaDoor.Pure
end
section
namespace Go.Proofs.YtlhnkfheojlghaaDoor.Pr
open Go.RowKit Go.Proofs.YtlhnkfheojlghaaDoorW.PrintWords
theorem get_data (s : ByteArray) (i : Nat) (hi : i < s.data.toList.length) : s.get! i = s.data.toList[i] := by
  cases s with
  | mk d =>
    show d[i]! = _
    rw [getElem!_pos d i (by simpa using hi)]
    simp
theorem toList_loopD (s : ByteArray) : ∀ (n i : Nat) (r : List UInt8), s.size - i = n → ByteArray.toList.loop s i r = r.reverse ++ s.data.toList.drop i := by
  intro n
  induction n with
  | zero =>
    intro i r h
    unfold ByteArray.toList.loop
    have hl : s.data.toList.length = s.size := by rw [Array.length_toList]; rfl
    rw [if_neg (by omega), List.drop_eq_nil_of_le (by omega), List.append_nil]
  | succ n ih =>
    intro i r h
    have hl : s.data.toList.length = s.size := by rw [Array.length_toList]; rfl
    have hi : i < s.size := by omega
    have hi2 : i < s.data.toList.length := by omega
    unfold ByteArray.toList.loop
    rw [if_pos hi, ih _ _ (by omega), get_data s i hi2, List.drop_eq_getElem_cons hi2, List.reverse_cons, List.append_assoc]
    rfl
theorem toList_data (s : ByteArray) : s.toList = s.data.toList := by
  unfold ByteArray.toList
  rw [toList_loopD s s.size 0 [] (by omega)]
  simp
theorem lives_f : minstrellaw13_lives.f = some true := by
  have h0 : minstrellaw13_least.f = some (0, 0, [], [⟨34, 0, 0, 0⟩], [], []) := rfl
  have h1 : prog_Check.f 0 0 [] [⟨34, 0, 0, 0⟩] [] [] = some 0 := by kernel_rfl
  have h2 : prog_Check.f 0 0 [] [] [] [] = some 1 := by kernel_rfl
  have h3 : textP ⟨0, 0, [], [⟨34, 0, 0, 0⟩], [], []⟩ = [48, 32, 101, 110, 100, 10] := by
    have e1 : Lib.itoa (0 : Int) = [48] := by
      rw [Lib.itoa, if_neg (by omega), Lib.decDigits, dif_pos (by decide)]
      rfl
    simp [textP, linesT, lineT, headT, textL, e1]
    decide
  have h4 : prog_Print.f 0 0 [] [⟨34, 0, 0, 0⟩] [] [] = some ⟨#[48, 32, 101, 110, 100, 10]⟩ := by
    unfold prog_Print.f
    rw [h3, if_pos ⟨by kernel_rfl, by decide⟩]
  unfold minstrellaw13_lives.f
  rw [h0]
  simp only [Option.bind_some]
  rw [h1]
  simp only [Option.bind_some, if_true]
  rw [h2]
  simp only [Option.bind_some, if_true]
  rw [h4]
  simp only [Option.bind_some, toList_data]
  rfl
end Go.Proofs.YtlhnkfheojlghaaDoor.Pr
namespace Go.Proofs.YtlhnkfheojlghaaDoor.Pure
open Go.Proofs.YtlhnkfheojlghaaDoor.Pr
end Go.Proofs.YtlhnkfheojlghaaDoor.Pure
end
section
namespace Go.Proofs.YtlhnkfheojlghaaDoor.Pure
open Go.RowKit Go.Proofs.YtlhnkfheojlghaaDoor.Pr Go.Proofs.YtlhnkfheojlghaaDoorW.PrintWords Go.Proofs.YtlhnkfheojlghaaDoorW.PrintLast Go.Proofs.YtlhnkfheojlghaaDoorW.PrintMore
theorem ev_pos {α : Type} {c : Prop} [Decidable c] (h : c) {g f : Nat → Option α} {r : α} (k : Ev g r) : Ev (fun n => if c then g n else f n) r := by
  simp only [if_pos h]; exact k
def bl (l : List UInt8) : ByteArray := ⟨l.toArray⟩
theorem bl_size (l : List UInt8) : (bl l).size = l.length := by show l.toArray.size = _; simp
theorem bl_cat (a b : List UInt8) : bl a ++ bl b = bl (a ++ b) := by
  apply ByteArray.ext
  rw [ByteArray.data_append]
  show a.toArray ++ b.toArray = (a ++ b).toArray
  simp
theorem rdS36 (L : List S36) (j : Nat) (h : j < L.length) : rd_T36 L (j : Int) = L[j] := by simp [rd_T36, h]
theorem rdS27 (L : List S27) (j : Nat) (h : j < L.length) : rd_T27 L (j : Int) = L[j] := by simp [rd_T27, h]
theorem uw (x : Int) (h : 0 ≤ x ∧ x < 18446744073709551616) : IntKind.u64.wrap x = x := by simp [IntKind.wrap, IntKind.bits, IntKind.signed]; omega
theorem dec_len : ∀ (d n : Nat), n < 10 ^ (d + 1) → (Lib.decDigits n).length ≤ d + 1
  | 0, n, h => by rw [Lib.decDigits, dif_pos (by omega)]; simp
  | d + 1, n, h => by
    rw [Lib.decDigits]
    split
    · simp
    · have h2 : n < 10 ^ (d + 1) * 10 := by rw [← Nat.pow_succ]; exact h
      have := dec_len d (n / 10) (by omega)
      rw [List.length_append, List.length_singleton]
      omega
theorem dec_len20 (n : Nat) (h : n < 18446744073709551616) : (Lib.decDigits n).length ≤ 20 := dec_len 19 n (by omega)
theorem dec_one (n : Nat) : strOfNums [(48 + (Int.tmod (n : Int) 10 % 256)) % 256] = bl [UInt8.ofNat (48 + n % 10)] := by
  have e : (48 + (Int.tmod (n : Int) 10 % 256)) % 256 = ((48 + n % 10 : Nat) : Int) := by
    have : Int.tmod (n : Int) 10 = ((n % 10 : Nat) : Int) := rfl
    rw [this]
    omega
  rw [e]
  unfold strOfNums bl
  rw [List.map_singleton, Int.toNat_natCast]
theorem dec_ev (N : Nat) : ∀ n : Nat, n ≤ N → n < 18446744073709551616 → Ev (fun k => minstrelref11_dec.f k (n : Int)) (bl (Lib.decDigits n)) := by
  induction N using Nat.strongRecOn with
  | ind N ih =>
    intro n hn hb
    by_cases h : n < 10
    · refine Ev.step (f := fun k => some (bl (Lib.decDigits n))) (fun k => ?_) (Ev.now _)
      rw [minstrelref11_dec.f]
      simp only [Option.bind_some]
      rw [if_neg (by omega), dec_one, Lib.decDigits, dif_pos h, Nat.mod_eq_of_lt h]
    · have e1 : Int.tdiv (n : Int) 10 = ((n / 10 : Nat) : Int) := rfl
      have e2 : IntKind.u64.wrap (((n / 10 : Nat) : Int)) = ((n / 10 : Nat) : Int) := uw _ (by omega)
      have hr := ih (n / 10) (by omega) (n / 10) (Nat.le_refl _) (by omega)
      have hl := dec_len20 (n / 10) (by omega)
      refine Ev.step (f := fun k => (minstrelref11_dec.f k ((n / 10 : Nat) : Int)).bind fun t172 => (if t172.size + (strOfNums [(48 + (Int.tmod (n : Int) 10 % 256)) % 256]).size ≤ 9223372036854775807 then (some (t172 ++ (strOfNums [(48 + (Int.tmod (n : Int) 10 % 256)) % 256]))) else (none))) (fun k => ?_) (Ev.bind hr ?_)
      · rw [minstrelref11_dec.f]
        simp only [Option.bind_some]
        rw [if_pos (by omega), e1, e2]
      · simp only [dec_one, bl_size, bl_cat, List.length_singleton]
        rw [if_pos (by omega)]
        have edd : Lib.decDigits n = Lib.decDigits (n / 10) ++ [UInt8.ofNat (48 + n % 10)] := by rw [Lib.decDigits, dif_neg h]
        rw [edd]
        exact Ev.now _
theorem itoa_len (x : Int) (h : -9223372036854775808 ≤ x ∧ x ≤ 9223372036854775807) : (Lib.itoa x).length ≤ 21 := by
  unfold Lib.itoa
  split
  · rw [List.length_cons]; have := dec_len20 x.natAbs (by omega); omega
  · have := dec_len20 x.toNat (by omega); omega
theorem signed_ev (x : Int) (h : -9223372036854775808 ≤ x ∧ x ≤ 9223372036854775807) : Ev (fun k => minstrelref11_signed.f k x) (bl (Lib.itoa x)) := by
  delta minstrelref11_signed.f
  by_cases hx : x < 0
  · have e1 : wrap64 (x + 1) = x + 1 := wrap64_in _ (by omega) (by omega)
    have e2 : wrap64 (-(x + 1)) = -(x + 1) := wrap64_in _ (by omega) (by omega)
    have e3 : IntKind.u64.wrap (-(x + 1)) = -(x + 1) := uw _ (by omega)
    have e4 : IntKind.u64.wrap (-(x + 1) + 1) = (x.natAbs : Int) := by rw [uw _ (by omega)]; omega
    simp only [if_pos hx, e1, e2, e3, e4]
    have hl := dec_len20 x.natAbs (by omega)
    refine Ev.bind (dec_ev _ x.natAbs (Nat.le_refl _) (by omega)) ?_
    have ed : (⟨#[45]⟩ : ByteArray) = bl [45] := rfl
    simp only [bl_size, ed, bl_cat]
    rw [if_pos (by omega)]
    unfold Lib.itoa
    rw [if_pos hx]
    exact Ev.now _
  · have e1 : IntKind.u64.wrap x = (x.toNat : Int) := by rw [uw _ (by omega)]; omega
    simp only [if_neg hx, e1]
    refine Ev.bind (dec_ev _ x.toNat (Nat.le_refl _) (by omega)) ?_
    unfold Lib.itoa
    rw [if_neg hx]
    exact Ev.now _
theorem Show_ev (x : Int) (h : -9223372036854775808 ≤ x ∧ x ≤ 9223372036854775807) : Ev (fun k => minstrelref11_Show.f k x 0 (⟨#[]⟩ : ByteArray) 0 0 0 [] []) (bl (40 :: Lib.itoa x ++ [41])) := by
  have hl := itoa_len x h
  have e0 : (⟨#[]⟩ : ByteArray).toList = ([] : List UInt8) := by rw [toList_data]
  have ed : (⟨#[40]⟩ : ByteArray) = bl [40] := rfl
  have ef : (⟨#[41]⟩ : ByteArray) = bl [41] := rfl
  refine Ev.step (f := fun k => (minstrelref11_signed.f k x).bind fun t => (if 1 + t.size ≤ 9223372036854775807 then minstrelref11_Show.j0 k (bl [40] ++ t) x 0 (⟨#[]⟩ : ByteArray) 0 0 0 [] [] else none)) (fun k => ?_) (Ev.bind (signed_ev x h) ?_)
  · rw [minstrelref11_Show.f]
    simp only [e0, if_true, ed]
  · simp only [bl_size, bl_cat]
    refine ev_pos (by omega) ?_
    refine Ev.step (f := fun k => minstrelref11_Show.j1 k (bl ([40] ++ Lib.itoa x)) x 0 (⟨#[]⟩ : ByteArray) 0 0 0 [] []) (fun k => by rw [minstrelref11_Show.j0, if_pos rfl]) ?_
    refine Ev.step (f := fun k => minstrelref11_Show.j2 k (bl ([40] ++ Lib.itoa x)) x 0 (⟨#[]⟩ : ByteArray) 0 0 0 [] []) (fun k => by rw [minstrelref11_Show.j1, if_pos rfl]) ?_
    refine Ev.step (f := fun k => minstrelref11_Show.l0 k (bl ([40] ++ Lib.itoa x)) 0 x 0 (⟨#[]⟩ : ByteArray) 0 0 0 [] []) (fun k => by rw [minstrelref11_Show.j2]) ?_
    refine Ev.step (f := fun k => some (bl (40 :: Lib.itoa x ++ [41]))) (fun k => ?_) (Ev.now _)
    rw [minstrelref11_Show.l0, if_neg (by simp), bl_size, if_pos (by simp; omega), ef, bl_cat]
    rfl
theorem dec13_ev (x : Int) (h : -9223372036854775808 ≤ x ∧ x ≤ 9223372036854775807) : Ev (fun k => minstrelref13_dec.f k x) (bl (Lib.itoa x)) := by
  have hl := itoa_len x h
  delta minstrelref13_dec.f
  refine Ev.bind (Show_ev x h) (Ev.bind (Show_ev x h) ?_)
  have hs : (bl (40 :: Lib.itoa x ++ [41])).size = (Lib.itoa x).length + 2 := by rw [bl_size]; simp
  have e1 : wrap64 ((((Lib.itoa x).length + 2 : Nat) : Int) - 1) = (((Lib.itoa x).length + 1 : Nat) : Int) := by rw [wrap64_in _ (by omega) (by omega)]; omega
  simp only [hs, e1]
  rw [if_pos (by omega), if_pos (by omega), Int.toNat_natCast]
  have : (bl (40 :: Lib.itoa x ++ [41])).extract 1 ((Lib.itoa x).length + 1) = bl (Lib.itoa x) := by
    apply ByteArray.ext
    rw [ByteArray.data_extract]
    show (40 :: Lib.itoa x ++ [41]).toArray.extract 1 ((Lib.itoa x).length + 1) = (Lib.itoa x).toArray
    rw [List.extract_toArray]
    congr 1
    rw [List.extract_eq_take_drop]
    simp
  rw [this]
  exact Ev.now _
theorem name_f (op : Int) : minstrelref13_Name.f op = some (bl (nameM op)) := by
  cases hi : isM op with
  | true =>
    have hh := hi
    unfold isM at hh
    simp only [Bool.and_eq_true, decide_eq_true_eq] at hh
    have hall : ∀ n : Fin 38, minstrelref13_Name.f (n.val : Int) = some (bl (nameM (n.val : Int))) := by decide +kernel
    have := hall ⟨op.toNat, by omega⟩
    rwa [show ((⟨op.toNat, by omega⟩ : Fin 38).val : Int) = op by simp; omega] at this
  | false =>
    unfold minstrelref13_Name.f nameM
    rw [is_f, hi]
    rfl
theorem name_len (op : Int) : (nameM op).length ≤ 12 := by
  cases hi : isM op with
  | true =>
    have hh := hi
    unfold isM at hh
    simp only [Bool.and_eq_true, decide_eq_true_eq] at hh
    have hall : ∀ n : Fin 38, (nameM (n.val : Int)).length ≤ 12 := by decide +kernel
    have := hall ⟨op.toNat, by omega⟩
    rwa [show ((⟨op.toNat, by omega⟩ : Fin 38).val : Int) = op by simp; omega] at this
  | false =>
    unfold nameM
    rw [hi, if_neg (by decide)]
    decide
theorem operand_f (i : S36) (j : Nat) : minstrelref13_operand.f i.f0 i.f1 i.f2 i.f3 (j : Int) = some (operM i j) := by
  unfold minstrelref13_operand.f operM
  by_cases a : j = 0
  · subst a; rfl
  · rw [if_neg (by omega), if_neg a]
    by_cases b : j = 1
    · subst b; rfl
    · rw [if_neg (by omega), if_neg b]
abbrev intI (i : S36) : Prop := ∀ k, -9223372036854775808 ≤ operM i k ∧ operM i k ≤ 9223372036854775807
theorem opers_len (i : S36) (h : intI i) : ∀ j, (opersT i j).length ≤ 22 * j
  | 0 => by rw [opersT]; simp
  | j + 1 => by
    rw [opersT, List.length_append, List.length_cons]
    have := opers_len i h j
    have := itoa_len _ (h j)
    omega
theorem head_len (n : Nat) (i : S36) (hn : n ≤ 3000) : (headT n i).length ≤ 34 := by
  unfold headT
  rw [List.length_append, List.length_cons]
  have := itoa_len (n : Int) (by omega)
  have := name_len i.f0
  omega
theorem line_len (n : Nat) (i : S36) (hn : n ≤ 3000) (h : intI i) : (lineT n i).length ≤ 101 := by
  unfold lineT
  rw [List.length_append, List.length_append, List.length_singleton]
  have := head_len n i hn
  have := opers_len i h (usesN i.f0).size
  have := uses_small2 i.f0
  omega
theorem lines_len (c : List S36) (hc : c.length ≤ 3000) (h : ∀ i ∈ c, intI i) : ∀ n, n ≤ c.length → (linesT c n).length ≤ 101 * n
  | 0, _ => by rw [linesT]; simp
  | n + 1, hn => by
    rw [linesT, List.length_append]
    have := lines_len c hc h n (by omega)
    have e : c.getD n z36 = c[n] := by rw [List.getD_eq_getElem?_getD, List.getElem?_eq_getElem (by omega)]; rfl
    rw [e]
    have := line_len n c[n] (by omega) (h _ (List.getElem_mem _))
    omega
theorem opers_loop (p : S27) (i : S36) (h : intI i) (pre : List UInt8) (hp : pre.length ≤ 1000000) (n : Nat) (hn : n ≤ 3000) (R : ByteArray)
    (hr : Ev (fun k => minstrelref13_Print.l0 k (bl (pre ++ opersT i (usesN i.f0).size ++ [10])) ((n + 1 : Nat) : Int) p.f0 p.f1 p.f2 p.f3 p.f4 p.f5) R) :
    ∀ (m j : Nat), j + m = (usesN i.f0).size → Ev (fun k => minstrelref13_Print.l1 k (bl (pre ++ opersT i j)) (n : Int) (j : Int) p.f0 p.f1 p.f2 p.f3 p.f4 p.f5 i.f0 i.f1 i.f2 i.f3) R := by
  have ed : (⟨#[32]⟩ : ByteArray) = bl [32] := rfl
  have ef : (⟨#[10]⟩ : ByteArray) = bl [10] := rfl
  have e4 : wrap64 ((n : Int) + 1) = ((n + 1 : Nat) : Int) := wrap64_in _ (by omega) (by omega)
  have hu := uses_small2 i.f0
  have key : ∀ (j : Nat), Ev (fun k => minstrelref13_Print.j2 k (bl (pre ++ opersT i j)) (n : Int) (j : Int) (decide ((j : Int) < ((usesN i.f0).size : Int))) p.f0 p.f1 p.f2 p.f3 p.f4 p.f5 i.f0 i.f1 i.f2 i.f3) R → Ev (fun k => minstrelref13_Print.l1 k (bl (pre ++ opersT i j)) (n : Int) (j : Int) p.f0 p.f1 p.f2 p.f3 p.f4 p.f5 i.f0 i.f1 i.f2 i.f3) R := fun j hj => by
    cases hi : isM i.f0 with
    | true =>
      have e : usesN i.f0 = usesM i.f0 := by unfold usesN; rw [if_pos hi]
      rw [e] at hj
      refine Ev.step (f := fun k => (minstrelref13_Uses.f k i.f0).bind fun t189 => (minstrelref13_Print.j2 k (bl (pre ++ opersT i j)) (n : Int) (j : Int) (decide ((j : Int) < (t189.size : Int))) p.f0 p.f1 p.f2 p.f3 p.f4 p.f5 i.f0 i.f1 i.f2 i.f3)) (fun k => ?_) (Ev.bind (uses_ev i.f0 hi) hj)
      rw [minstrelref13_Print.l1, is_f, hi]
      simp only [Option.bind_some, if_true]
    | false =>
      have e : usesN i.f0 = ⟨#[]⟩ := by unfold usesN; rw [if_neg (by rw [hi]; decide)]
      have e2 : decide ((j : Int) < ((usesN i.f0).size : Int)) = false := by rw [e]; exact decide_eq_false (by show ¬ (j : Int) < ((0 : Nat) : Int); omega)
      rw [e2] at hj
      refine Ev.step (fun k => ?_) hj
      rw [minstrelref13_Print.l1, is_f, hi]
      simp only [Option.bind_some, Bool.false_eq_true, if_false]
  intro m
  induction m with
  | zero =>
    intro j hj
    refine key j ?_
    have hl := opers_len i h j
    have ee : (usesN i.f0).size = j := by omega
    rw [ee] at hr
    rw [decide_eq_false (by omega)]
    refine Ev.step (fun k => ?_) hr
    rw [minstrelref13_Print.j2, if_neg (by decide), bl_size, if_pos (by rw [List.length_append]; omega), ef, bl_cat, e4]
  | succ m ih =>
    intro j hj
    refine key j ?_
    have hl := opers_len i h j
    have hi := itoa_len _ (h j)
    have e5 : wrap64 ((j : Int) + 1) = ((j + 1 : Nat) : Int) := wrap64_in _ (by omega) (by omega)
    rw [decide_eq_true (by omega)]
    refine Ev.step (f := fun k => (minstrelref13_dec.f k (operM i j)).bind fun t191 => (if (bl (pre ++ opersT i j ++ [32])).size + t191.size ≤ 9223372036854775807 then (minstrelref13_Print.l1 k (bl (pre ++ opersT i j ++ [32]) ++ t191) (n : Int) ((j + 1 : Nat) : Int) p.f0 p.f1 p.f2 p.f3 p.f4 p.f5 i.f0 i.f1 i.f2 i.f3) else (none))) (fun k => ?_) (Ev.bind (dec13_ev _ (h j)) ?_)
    · rw [minstrelref13_Print.j2, if_pos rfl, bl_size, if_pos (by rw [List.length_append]; omega), operand_f, ed, bl_cat, e5]
      rfl
    · simp only [bl_size, bl_cat]
      refine ev_pos (by simp only [List.length_append, List.length_singleton]; omega) ?_
      have := ih (j + 1) (by omega)
      rw [opersT] at this
      simpa [List.append_assoc] using this
theorem lines_loop (p : S27) (hc : p.f3.length ≤ 3000) (h : ∀ i ∈ p.f3, intI i) (R : ByteArray) (hr : Ev (fun k => minstrelref13_Print.l2 k (bl (linesT p.f3 p.f3.length)) 0 p.f0 p.f1 p.f2 p.f3 p.f4 p.f5) R) :
    ∀ (m n : Nat), n + m = p.f3.length → Ev (fun k => minstrelref13_Print.l0 k (bl (linesT p.f3 n)) (n : Int) p.f0 p.f1 p.f2 p.f3 p.f4 p.f5) R := by
  have ed : (⟨#[32]⟩ : ByteArray) = bl [32] := rfl
  intro m
  induction m with
  | zero =>
    intro n hn
    obtain rfl : n = p.f3.length := by omega
    refine Ev.step (fun k => ?_) hr
    rw [minstrelref13_Print.l0, if_neg (by omega)]
  | succ m ih =>
    intro n hn
    have hna : n < p.f3.length := by omega
    have hl := lines_len p.f3 hc h n (by omega)
    have hi := itoa_len (n : Int) (by omega)
    have hm := name_len p.f3[n].f0
    have hnext := ih (n + 1) (by omega)
    rw [linesT] at hnext
    have e : p.f3.getD n z36 = p.f3[n] := by rw [List.getD_eq_getElem?_getD, List.getElem?_eq_getElem hna]; rfl
    rw [e] at hnext
    have hII := h _ (List.getElem_mem hna)
    have hx := rdS36 _ n hna
    generalize p.f3[n] = i at hm hnext hII hx
    have ho := opers_loop p i hII (linesT p.f3 n ++ headT n i) (by have := head_len n i (by omega); rw [List.length_append]; omega) n (by omega) R (by
      unfold lineT at hnext
      simpa [List.append_assoc] using hnext) (usesN i.f0).size 0 (by omega)
    rw [opersT, List.append_nil] at ho
    refine Ev.step (f := fun k => (minstrelref13_dec.f k (n : Int)).bind fun t186 => (if (bl (linesT p.f3 n)).size + t186.size ≤ 9223372036854775807 then (if (bl (linesT p.f3 n) ++ t186).size + 1 ≤ 9223372036854775807 then (if ((bl (linesT p.f3 n) ++ t186) ++ bl [32]).size + (bl (nameM i.f0)).size ≤ 9223372036854775807 then (minstrelref13_Print.l1 k (((bl (linesT p.f3 n) ++ t186) ++ bl [32]) ++ bl (nameM i.f0)) (n : Int) 0 p.f0 p.f1 p.f2 p.f3 p.f4 p.f5 i.f0 i.f1 i.f2 i.f3) else (none)) else (none)) else (none))) (fun k => ?_) (Ev.bind (dec13_ev _ (by omega)) ?_)
    · rw [minstrelref13_Print.l0, if_pos (by omega), if_pos (by omega), hx, name_f, ed]
      rfl
    · simp only [bl_size, bl_cat]
      refine ev_pos (by omega) (ev_pos (by simp only [List.length_append, List.length_singleton]; omega) (ev_pos (by simp only [List.length_append, List.length_singleton]; omega) ?_))
      unfold headT at ho
      simpa [List.append_assoc] using ho
theorem fun_len (k : Nat) (h : k ≤ 3000) : (funT k).length ≤ 31 := by
  unfold funT
  rw [List.length_append, List.length_append]
  have := itoa_len (k : Int) (by omega)
  simp only [List.length_cons, List.length_nil]
  omega
mutual
theorem text_len : ∀ (p : S27), sz p ≤ 3000 → intsM p = true → (textP p).length + 128 ≤ 128 * sz p
  | ⟨f0, f1, f2, f3, f4, f5⟩, h, hi => by
    have hh := h
    rw [sz] at hh
    have h3 : (linesT f3 f3.length).length ≤ 101 * f3.length := lines_len f3 (by omega) (fun i hm => ints_code (p := ⟨f0, f1, f2, f3, f4, f5⟩) hi hm) f3.length (Nat.le_refl _)
    rw [intsM, Bool.and_eq_true] at hi
    have hlen := szL_len f5
    have h5 := textL_len f5 0 (by omega) (by omega) hi.2
    rw [textP, sz, List.length_append]
    omega
theorem textL_len : ∀ (l : List S27) (k : Nat), szL l ≤ 3000 → k + l.length ≤ 3000 → intsL l = true → (textL l k).length ≤ 128 * szL l
  | [], k, _, _, _ => by rw [textL]; simp
  | q :: l, k, h, hk, hi => by
    rw [szL] at h
    rw [intsL, Bool.and_eq_true] at hi
    rw [List.length_cons] at hk
    have h1 := text_len q (by omega) hi.1
    have h2 := textL_len l (k + 1) (by omega) (by omega) hi.2
    have h3 := fun_len k (by omega)
    rw [textL, szL, List.length_append, List.length_append]
    omega
end
theorem funs_loop (p : S27) (hs : sz p ≤ 3000) (hI : intsM p = true) (ih : ∀ x ∈ p.f5, Ev (fun k => minstrelref13_Print.f k x.f0 x.f1 x.f2 x.f3 x.f4 x.f5) (bl (textP x))) :
    ∀ (m n : Nat) (pre : List UInt8), n + m = p.f5.length → pre.length + (textL (p.f5.drop n) n).length ≤ 1000000 → Ev (fun k => minstrelref13_Print.l2 k (bl pre) (n : Int) p.f0 p.f1 p.f2 p.f3 p.f4 p.f5) (bl (pre ++ textL (p.f5.drop n) n)) := by
  have ed : (⟨#[102, 117, 110, 99, 116, 105, 111, 110, 32]⟩ : ByteArray) = bl [102, 117, 110, 99, 116, 105, 111, 110, 32] := rfl
  have ef : (⟨#[10]⟩ : ByteArray) = bl [10] := rfl
  have hs' := hs
  rw [sz_eq] at hs'
  have hlen := szL_len p.f5
  intro m
  induction m with
  | zero =>
    intro n pre hn hb
    rw [List.drop_eq_nil_of_le (by omega), textL, List.append_nil]
    refine Ev.step (f := fun k => some (bl pre)) (fun k => ?_) (Ev.now _)
    rw [minstrelref13_Print.l2, if_neg (by omega)]
  | succ m ihm =>
    intro n pre hn hb
    have hna : n < p.f5.length := by omega
    have e4 : wrap64 ((n : Int) + 1) = ((n + 1 : Nat) : Int) := wrap64_in _ (by omega) (by omega)
    rw [textL_drop _ n hna] at hb ⊢
    have hc := ih _ (List.getElem_mem hna)
    have hx := rdS27 _ n hna
    generalize p.f5[n] = q at hb hc hx ⊢
    simp only [List.length_append] at hb
    have hf : (funT n).length = 9 + (Lib.itoa (n : Int)).length + 1 := by unfold funT; simp only [List.length_append, List.length_cons, List.length_nil]
    have hnext := ihm (n + 1) (pre ++ funT n ++ textP q) (by omega) (by simp only [List.length_append]; omega)
    refine Ev.step (f := fun k => (minstrelref13_dec.f k (n : Int)).bind fun t192 => (if (bl pre ++ bl [102, 117, 110, 99, 116, 105, 111, 110, 32]).size + t192.size ≤ 9223372036854775807 then (if ((bl pre ++ bl [102, 117, 110, 99, 116, 105, 111, 110, 32]) ++ t192).size + 1 ≤ 9223372036854775807 then ((minstrelref13_Print.f k q.f0 q.f1 q.f2 q.f3 q.f4 q.f5).bind fun t194 => (if (((bl pre ++ bl [102, 117, 110, 99, 116, 105, 111, 110, 32]) ++ t192) ++ bl [10]).size + t194.size ≤ 9223372036854775807 then (minstrelref13_Print.l2 k ((((bl pre ++ bl [102, 117, 110, 99, 116, 105, 111, 110, 32]) ++ t192) ++ bl [10]) ++ t194) ((n + 1 : Nat) : Int) p.f0 p.f1 p.f2 p.f3 p.f4 p.f5) else (none))) else (none)) else (none))) (fun k => ?_) (Ev.bind (dec13_ev _ (by omega)) ?_)
    · rw [minstrelref13_Print.l2, if_pos (by omega), bl_size, if_pos (by omega), hx, ed, ef, e4]
      simp only [if_pos (show (0 : Int) ≤ (n : Int) by omega)]
    · simp only [bl_size, bl_cat]
      refine ev_pos (by simp only [List.length_append, List.length_cons, List.length_nil]; omega) (ev_pos (by simp only [List.length_append, List.length_cons, List.length_nil]; omega) (Ev.bind hc ?_))
      simp only [bl_size, bl_cat]
      refine ev_pos (by simp only [List.length_append, List.length_cons, List.length_nil]; omega) ?_
      unfold funT at hnext ⊢
      simpa [List.append_assoc] using hnext
theorem Print_ev (N : Nat) : ∀ (p : S27), SizeOf.sizeOf p ≤ N → sz p ≤ 3000 → intsM p = true → Ev (fun k => minstrelref13_Print.f k p.f0 p.f1 p.f2 p.f3 p.f4 p.f5) (bl (textP p)) := by
  induction N with
  | zero => intro p hp; exfalso; obtain ⟨f0, f1, f2, f3, f4, f5⟩ := p; simp at hp
  | succ N ih =>
    intro p hp hs hI
    have hs' := hs
    rw [sz_eq] at hs'
    have hlen := szL_len p.f5
    have hsub : intsL p.f5 = true := by rw [intsM_eq, Bool.and_eq_true] at hI; exact hI.2
    have hlines := lines_len p.f3 (by omega) (fun i hm => ints_code hI hm) p.f3.length (Nat.le_refl _)
    have hL := textL_len p.f5 0 (by omega) (by omega) hsub
    have hf := funs_loop p hs hI (fun x hx => ih x (by have := sizeOf_mem hx; omega) (by have := szL_mem hx; omega) (intsL_mem hsub hx)) p.f5.length 0 (linesT p.f3 p.f3.length) (by omega) (by rw [List.drop_zero]; omega)
    have hl := lines_loop p (by omega) (fun i hm => ints_code hI hm) _ hf p.f3.length 0 (by omega)
    rw [linesT, List.drop_zero, ← textP_eq] at hl
    refine Ev.step (fun k => ?_) hl
    rw [minstrelref13_Print.f]
    rfl
end Go.Proofs.YtlhnkfheojlghaaDoor.Pure
end
section
namespace Go.Proofs.YtlhnkfheojlghaaDoor.Pr
open Go.ChangeShapes Go.WideShapes Go.RowKit Go.Proofs.YtlhnkfheojlghaaDoorW.PrintWords Go.Proofs.YtlhnkfheojlghaaDoorW.PrintLast Go.Proofs.YtlhnkfheojlghaaDoorW.PrintMore Go.Proofs.YtlhnkfheojlghaaDoor.Pure
set_option maxRecDepth 100000
theorem weightsAll_mem {H : Type} {P : Program} {e : TypeId} : ∀ {l : List (DataW H)} {d : DataW H}, d ∈ l → ∀ n ∈ d.weights P e, n ∈ DataW.weightsAll P e l
  | [], d, hd, n, hn => by cases hd
  | x :: l, d, hd, n, hn => by
    rw [DataW.weightsAll]
    rcases List.mem_cons.1 hd with rfl | hd
    · exact List.mem_append_left _ hn
    · exact List.mem_append_right _ (weightsAll_mem hd n hn)
theorem list_of {α : Type} {Q : Nat → α → Prop} : ∀ (n : Nat), (∀ i, i < n → ∃ x, Q i x) → ∃ L : List α, L.length = n ∧ ∀ i x, L[i]? = some x → Q i x
  | 0, _ => ⟨[], rfl, fun i x h => by simp at h⟩
  | n + 1, h => by
    obtain ⟨L, hl, hL⟩ := list_of n (fun i hi => h i (by omega))
    obtain ⟨x, hx⟩ := h n (by omega)
    refine ⟨L ++ [x], by simp [hl], fun i y hy => ?_⟩
    rcases Nat.lt_or_ge i L.length with hlt | hge
    · rw [List.getElem?_append_left hlt] at hy
      exact hL i y hy
    · have hi := (List.getElem?_eq_some_iff.1 hy).1
      rw [List.length_append, List.length_singleton] at hi
      have : i = n := by omega
      subst this
      rw [List.getElem?_append_right (by omega), hl, Nat.sub_self] at hy
      have : x = y := by simpa using hy
      subst this
      exact hx
theorem open_srow {α H : Type} {enc : TypeId × Value → H} {w : World} {sl e : TypeId} (hu : Tryd.prog.underlying sl = some (.slice e)) (kd : Kd α) (hsz : Tryd.prog.cellsOf e = kd.sz) (hby : 1 ≤ Tryd.prog.bytesOf e) (Q Z : α → Prop) {fuel : Nat} {v : Value} {x : DataW H × List MemPlace}
    (hel : ∀ m, m < fuel → ∀ cs y, DataW.trod enc Tryd.prog w 0 (fun _ => true) true m e cs = some y → ∃ c, kd.K w c cs ∧ Q c ∧ ((∀ n ∈ y.1.weights Tryd.prog e, n ≤ reachBytes) → Z c))
    (h : DataW.trod enc Tryd.prog w 0 (fun _ => true) true fuel sl [v] = some x) :
    ∃ (l : List α) (A : Option Addr) (cap : Nat), v = .slice A l.length cap ∧ Kd.C kd w A l.length l ∧ l.length ≤ cap ∧ (∀ c ∈ l, Q c) ∧ ((∀ n ∈ x.1.weights Tryd.prog sl, n ≤ reachBytes) → l.length ≤ 140737488355328 ∧ ∀ c ∈ l, Z c) := by
  rcases DataW.trod_slice hu h with ⟨e3, _⟩ | ⟨a, len, cap, elems, rest, m, hm, e3, z3, _, hlc, hcap, hel2, helem, _, _⟩
  · injection e3 with e3 _
    exact ⟨[], none, 0, e3, Kd.C_nil _ _, Nat.le_refl _, fun c hc => (by cases hc), fun _ => ⟨by simp, fun c hc => (by cases hc)⟩⟩
  · injection e3 with e3 _
    have hw : (∀ n ∈ x.1.weights Tryd.prog sl, n ≤ reachBytes) → len ≤ 140737488355328 ∧ ∀ y ∈ elems, ∀ n ∈ y.1.weights Tryd.prog e, n ≤ reachBytes := fun hall => by
      have h1 : ∀ n ∈ ((elems.map (·.1)).length + (rest.map (·.1)).length) * Tryd.prog.bytesOf e :: (DataW.weightsAll Tryd.prog e (elems.map (·.1)) ++ DataW.weightsAll Tryd.prog e (rest.map (·.1))), n ≤ reachBytes := by
        intro n hn
        refine hall n ?_
        rw [z3]
        simp only [DataW.weights, hu]
        exact hn
      refine ⟨?_, fun y hy n hn => h1 n (List.mem_cons_of_mem _ (List.mem_append_left _ (weightsAll_mem (List.mem_map_of_mem hy) n hn)))⟩
      have h2 := h1 _ List.mem_cons_self
      rw [List.length_map, hel2] at h2
      have h3 : len * 1 ≤ (len + (rest.map (·.1)).length) * Tryd.prog.bytesOf e := Nat.mul_le_mul (by omega) hby
      have h4 : len ≤ 140737488351232 := by
        have : reachBytes = 140737488351232 := rfl
        omega
      omega
    have hex : ∀ i, i < len → ∃ c : α, (∃ cs', kd.K w c cs' ∧ ∀ (j : Nat) (u : Value), cs'[j]? = some u → w.cell? (a.add (i * kd.sz + j)) = some u) ∧ Q c ∧ ((∀ n ∈ x.1.weights Tryd.prog sl, n ≤ reachBytes) → Z c) := by
      intro i hi
      have h1 := helem i hi
      rw [List.getElem?_eq_getElem (by omega)] at h1
      obtain ⟨cs', h2, h3⟩ := Option.bind_eq_some_iff.mp h1
      obtain ⟨c, hK, hq, hz⟩ := hel m (by omega) cs' _ h3
      obtain ⟨_, h4, h5⟩ := World.cells?_some h2
      refine ⟨c, ⟨cs', hK, fun j u hu2 => ?_⟩, hq, fun hall => hz ((hw hall).2 _ (List.getElem_mem _))⟩
      have hj : j < kd.sz := by have := (List.getElem?_eq_some_iff.1 hu2).1; have := kd.K_len hK; omega
      rw [hsz] at h5
      have h6 := h5 j (by omega)
      rw [add_add] at h6
      exact h6.trans hu2
    obtain ⟨L, hL, hLe⟩ := list_of len hex
    subst hL
    refine ⟨L, some a, cap, e3, ⟨rfl, by show L.length ≤ _; simp only [maxLen] at hcap; omega, fun _ => ⟨a, rfl, fun i p hp => ?_⟩⟩, hlc, fun c hc => ?_, fun hall => ⟨(hw hall).1, fun c hc => ?_⟩⟩
    · obtain ⟨⟨cs', hK, hc⟩, _⟩ := hLe i p hp
      exact ⟨cs', kd.K_len hK, hK, hc⟩
    · obtain ⟨i, hi⟩ := List.getElem?_of_mem hc
      exact (hLe i c hi).2.1
    · obtain ⟨i, hi⟩ := List.getElem?_of_mem hc
      exact (hLe i c hi).2.2 hall
theorem open_up {H : Type} {enc : TypeId × Value → H} {w : World} {fuel : Nat} {cs : List Value} {x : DataW H × List MemPlace} (h : DataW.trod enc Tryd.prog w 0 (fun _ => true) true fuel 94 cs = some x) : ∃ c : S94, k94.K w c cs := by
  obtain ⟨xs, n, hn, hx, hl, hlen, hf⟩ := DataW.trod_struct Tryd.underlying94 h
  have hl2 : cs.length = 2 := by rw [hl]; kernel_rfl
  obtain ⟨v0, v1, rfl⟩ : ∃ v0 v1, cs = [v0, v1] := by
    match cs, hl2 with
    | [a, b], _ => exact ⟨a, b, rfl⟩
  have hxl : xs.length = 2 := hlen
  obtain ⟨y0, y1, rfl⟩ : ∃ y0 y1, xs = [y0, y1] := by
    match xs, hxl with
    | [a, b], _ => exact ⟨a, b, rfl⟩
  have g0 : DataW.trod enc Tryd.prog w 0 (fun _ => true) true n 4 [v0] = some y0 := hf 0 _ rfl
  have g1 : DataW.trod enc Tryd.prog w 0 (fun _ => true) true n 3 [v1] = some y1 := hf 1 _ rfl
  obtain ⟨b, e0, _⟩ := DataW.trod_bool Tryd.underlying4 g0
  obtain ⟨i, e1, _, w1⟩ := DataW.trod_int Tryd.underlying3 g1
  injection e0 with e0 _
  injection e1 with e1 _
  subst e0 e1
  exact ⟨⟨b, i⟩, k94_mk w ⟨b, i⟩⟩
theorem wf_i64 {x : Int} (h : (Lit.int .i64 x).wf = true) : -9223372036854775808 ≤ x ∧ x ≤ 9223372036854775807 := by
  have e0 : IntKind.i64.min = -9223372036854775808 := rfl
  have e1 : IntKind.i64.max = 9223372036854775807 := rfl
  simpa [Lit.wf, e0, e1] using h
theorem wf_u64 {x : Int} (h : (Lit.int .u64 x).wf = true) : 0 ≤ x ∧ x < 18446744073709551616 := by
  have e0 : IntKind.u64.min = 0 := rfl
  have e1 : IntKind.u64.max = 18446744073709551615 := rfl
  have := h
  simp [Lit.wf, e0, e1] at this
  omega
theorem open_instr {H : Type} {enc : TypeId × Value → H} {w : World} {fuel : Nat} {cs : List Value} {x : DataW H × List MemPlace} (h : DataW.trod enc Tryd.prog w 0 (fun _ => true) true fuel 36 cs = some x) : ∃ c : S36, k36.K w c cs ∧ (i64B c.f1 && (i64B c.f2 && i64B c.f3)) = true := by
  obtain ⟨xs, n, hn, hx, hl, hlen, hf⟩ := DataW.trod_struct Tryd.underlying36 h
  have hl2 : cs.length = 4 := by rw [hl]; kernel_rfl
  obtain ⟨v0, v1, v2, v3, rfl⟩ : ∃ v0 v1 v2 v3, cs = [v0, v1, v2, v3] := by
    match cs, hl2 with
    | [a, b, c, d], _ => exact ⟨a, b, c, d, rfl⟩
  have hxl : xs.length = 4 := hlen
  obtain ⟨y0, y1, y2, y3, rfl⟩ : ∃ y0 y1 y2 y3, xs = [y0, y1, y2, y3] := by
    match xs, hxl with
    | [a, b, c, d], _ => exact ⟨a, b, c, d, rfl⟩
  have g0 : DataW.trod enc Tryd.prog w 0 (fun _ => true) true n 3 [v0] = some y0 := hf 0 _ rfl
  have g1 : DataW.trod enc Tryd.prog w 0 (fun _ => true) true n 3 [v1] = some y1 := hf 1 _ rfl
  have g2 : DataW.trod enc Tryd.prog w 0 (fun _ => true) true n 3 [v2] = some y2 := hf 2 _ rfl
  have g3 : DataW.trod enc Tryd.prog w 0 (fun _ => true) true n 3 [v3] = some y3 := hf 3 _ rfl
  obtain ⟨i0, e0, _, w0⟩ := DataW.trod_int Tryd.underlying3 g0
  obtain ⟨i1, e1, _, w1⟩ := DataW.trod_int Tryd.underlying3 g1
  obtain ⟨i2, e2, _, w2⟩ := DataW.trod_int Tryd.underlying3 g2
  obtain ⟨i3, e3, _, w3⟩ := DataW.trod_int Tryd.underlying3 g3
  injection e0 with e0 _
  injection e1 with e1 _
  injection e2 with e2 _
  injection e3 with e3 _
  subst e0 e1 e2 e3
  have q1 := wf_i64 w1
  have q2 := wf_i64 w2
  have q3 := wf_i64 w3
  refine ⟨⟨i0, i1, i2, i3⟩, k36_mk w ⟨i0, i1, i2, i3⟩, ?_⟩
  simp only [i64B, Bool.and_eq_true, decide_eq_true_eq]
  exact ⟨q1, q2, q3⟩
theorem open_val {H : Type} {enc : TypeId × Value → H} {w : World} {fuel : Nat} {cs : List Value} {x : DataW H × List MemPlace} (h : DataW.trod enc Tryd.prog w 0 (fun _ => true) true fuel 98 cs = some x) : ∃ c : S98, k98.K w c cs ∧ (decide (0 ≤ c.f1) && decide (c.f1 < 18446744073709551616)) = true := by
  obtain ⟨xs, n, hn, hx, hl, hlen, hf⟩ := DataW.trod_struct Tryd.underlying98 h
  have hl2 : cs.length = 4 := by rw [hl]; kernel_rfl
  obtain ⟨v0, v1, v2, v3, rfl⟩ : ∃ v0 v1 v2 v3, cs = [v0, v1, v2, v3] := by
    match cs, hl2 with
    | [a, b, c, d], _ => exact ⟨a, b, c, d, rfl⟩
  have hxl : xs.length = 4 := hlen
  obtain ⟨y0, y1, y2, y3, rfl⟩ : ∃ y0 y1 y2 y3, xs = [y0, y1, y2, y3] := by
    match xs, hxl with
    | [a, b, c, d], _ => exact ⟨a, b, c, d, rfl⟩
  have g0 : DataW.trod enc Tryd.prog w 0 (fun _ => true) true n 3 [v0] = some y0 := hf 0 _ rfl
  have g1 : DataW.trod enc Tryd.prog w 0 (fun _ => true) true n 87 [v1] = some y1 := hf 1 _ rfl
  have g2 : DataW.trod enc Tryd.prog w 0 (fun _ => true) true n 9 [v2] = some y2 := hf 2 _ rfl
  have g3 : DataW.trod enc Tryd.prog w 0 (fun _ => true) true n 3 [v3] = some y3 := hf 3 _ rfl
  obtain ⟨i0, e0, _, w0⟩ := DataW.trod_int Tryd.underlying3 g0
  obtain ⟨i1, e1, _, w1⟩ := DataW.trod_int Tryd.underlying87 g1
  obtain ⟨i2, e2, _, w2⟩ := DataW.trod_string Tryd.underlying9 g2
  obtain ⟨i3, e3, _, w3⟩ := DataW.trod_int Tryd.underlying3 g3
  injection e0 with e0 _
  injection e1 with e1 _
  injection e2 with e2 _
  injection e3 with e3 _
  subst e0 e1 e2 e3
  have q1 := wf_u64 w1
  refine ⟨⟨i0, i1, i2, i3⟩, k98_mk w ⟨i0, i1, i2, i3⟩, ?_⟩
  simp only [Bool.and_eq_true, decide_eq_true_eq]
  exact q1
theorem wordsL_of : ∀ {l : List S27}, (∀ c ∈ l, wordsM c = true) → wordsL l = true
  | [], _ => rfl
  | p :: l, h => by rw [wordsL, Bool.and_eq_true]; exact ⟨h p List.mem_cons_self, wordsL_of (fun c hc => h c (List.mem_cons_of_mem _ hc))⟩
theorem intsL_of : ∀ {l : List S27}, (∀ c ∈ l, intsM c = true) → intsL l = true
  | [], _ => rfl
  | p :: l, h => by rw [intsL, Bool.and_eq_true]; exact ⟨h p List.mem_cons_self, intsL_of (fun c hc => h c (List.mem_cons_of_mem _ hc))⟩
theorem lenL_of : ∀ {l : List S27}, (∀ c ∈ l, lenP c) → lenL l
  | [], _ => trivial
  | p :: l, h => by rw [lenL]; exact ⟨h p List.mem_cons_self, lenL_of (fun c hc => h c (List.mem_cons_of_mem _ hc))⟩
theorem open_protos {H : Type} {enc : TypeId × Value → H} {w : World} : ∀ (fuel : Nat) (cs : List Value) (x : DataW H × List MemPlace), DataW.trod enc Tryd.prog w 0 (fun _ => true) true fuel 27 cs = some x →
    ∃ p : S27, k27.K w p cs ∧ (wordsM p = true ∧ intsM p = true) ∧ ((∀ n ∈ x.1.weights Tryd.prog 27, n ≤ reachBytes) → lenP p) := by
  intro fuel
  induction fuel using Nat.strongRecOn with
  | _ fuel ih =>
  intro cs x h
  obtain ⟨xs, n, hn, hx, hl, hlen, hf⟩ := DataW.trod_struct Tryd.underlying27 h
  have hl6 : cs.length = 6 := by rw [hl]; kernel_rfl
  obtain ⟨v0, v1, v2, v3, v4, v5, rfl⟩ : ∃ v0 v1 v2 v3 v4 v5, cs = [v0, v1, v2, v3, v4, v5] := by
    match cs, hl6 with
    | [a, b, c, d, e, f], _ => exact ⟨a, b, c, d, e, f, rfl⟩
  have hxl : xs.length = 6 := hlen
  obtain ⟨y0, y1, y2, y3, y4, y5, rfl⟩ : ∃ y0 y1 y2 y3 y4 y5, xs = [y0, y1, y2, y3, y4, y5] := by
    match xs, hxl with
    | [a, b, c, d, e, f], _ => exact ⟨a, b, c, d, e, f, rfl⟩
  have g0 : DataW.trod enc Tryd.prog w 0 (fun _ => true) true n 3 [v0] = some y0 := hf 0 _ rfl
  have g1 : DataW.trod enc Tryd.prog w 0 (fun _ => true) true n 3 [v1] = some y1 := hf 1 _ rfl
  have g2 : DataW.trod enc Tryd.prog w 0 (fun _ => true) true n 22 [v2] = some y2 := hf 2 _ rfl
  have g3 : DataW.trod enc Tryd.prog w 0 (fun _ => true) true n 23 [v3] = some y3 := hf 3 _ rfl
  have g4 : DataW.trod enc Tryd.prog w 0 (fun _ => true) true n 24 [v4] = some y4 := hf 4 _ rfl
  have g5 : DataW.trod enc Tryd.prog w 0 (fun _ => true) true n 25 [v5] = some y5 := hf 5 _ rfl
  obtain ⟨t0, e0, _, w0⟩ := DataW.trod_int Tryd.underlying3 g0
  obtain ⟨t1, e1, _, w1⟩ := DataW.trod_int Tryd.underlying3 g1
  injection e0 with e0 _
  injection e1 with e1 _
  obtain ⟨l2, A2, c2, e2, C2, k2, q2, z2⟩ := open_srow Tryd.underlying22 k94 (by kernel_rfl) (of_decide_eq_true (by kernel_rfl)) (fun _ => True) (fun _ => True) (fun m _ cs y hy => by obtain ⟨c, hc⟩ := open_up hy; exact ⟨c, hc, trivial, fun _ => trivial⟩) g2
  obtain ⟨l3, A3, c3, e3, C3, k3, q3, z3⟩ := open_srow Tryd.underlying23 k36 (by kernel_rfl) (of_decide_eq_true (by kernel_rfl)) (fun i => (i64B i.f1 && (i64B i.f2 && i64B i.f3)) = true) (fun _ => True) (fun m _ cs y hy => by obtain ⟨c, hc, hq⟩ := open_instr hy; exact ⟨c, hc, hq, fun _ => trivial⟩) g3
  obtain ⟨l4, A4, c4, e4, C4, k4, q4, z4⟩ := open_srow Tryd.underlying24 k98 (by kernel_rfl) (of_decide_eq_true (by kernel_rfl)) (fun v => (decide (0 ≤ v.f1) && decide (v.f1 < 18446744073709551616)) = true) (fun _ => True) (fun m _ cs y hy => by obtain ⟨c, hc, hq⟩ := open_val hy; exact ⟨c, hc, hq, fun _ => trivial⟩) g4
  obtain ⟨l5, A5, c5, e5, C5, k5, q5, z5⟩ := open_srow Tryd.underlying25 k27 (by kernel_rfl) (of_decide_eq_true (by kernel_rfl)) (fun p => wordsM p = true ∧ intsM p = true) (fun p => lenP p) (fun m hm cs y hy => ih m (by omega) cs y hy) g5
  subst e0 e1 e2 e3 e4 e5
  refine ⟨⟨t0, t1, l2, l3, l4, l5⟩, k27_mk w ⟨t0, t1, l2, l3, l4, l5⟩ k2 C2 k3 C3 k4 C4 k5 C5, ⟨?_, ?_⟩, fun hall => ?_⟩
  · rw [wordsM, Bool.and_eq_true]
    exact ⟨List.all_eq_true.2 q4, wordsL_of (fun c hc => (q5 c hc).1)⟩
  · rw [intsM, Bool.and_eq_true]
    exact ⟨List.all_eq_true.2 q3, intsL_of (fun c hc => (q5 c hc).2)⟩
  · have hfs : ∀ n, (n ∈ y2.1.weights Tryd.prog 22 ∨ n ∈ y3.1.weights Tryd.prog 23 ∨ n ∈ y4.1.weights Tryd.prog 24 ∨ n ∈ y5.1.weights Tryd.prog 25) → n ≤ reachBytes := by
      intro n hn
      refine hall n ?_
      rw [hx]
      simp only [List.map_cons, List.map_nil, DataW.weights, Tryd.underlying27]
      show n ∈ DataW.weights Tryd.prog _ y0.1 ++ (DataW.weights Tryd.prog _ y1.1 ++ (DataW.weights Tryd.prog 22 y2.1 ++ (DataW.weights Tryd.prog 23 y3.1 ++ (DataW.weights Tryd.prog 24 y4.1 ++ (DataW.weights Tryd.prog 25 y5.1 ++ [])))))
      simp only [List.mem_append]
      rcases hn with hn | hn | hn | hn
      · exact .inr (.inr (.inl hn))
      · exact .inr (.inr (.inr (.inl hn)))
      · exact .inr (.inr (.inr (.inr (.inl hn))))
      · exact .inr (.inr (.inr (.inr (.inr (.inl hn)))))
    have b2 := z2 (fun n hn => hfs n (.inl hn))
    have b3 := z3 (fun n hn => hfs n (.inr (.inl hn)))
    have b4 := z4 (fun n hn => hfs n (.inr (.inr (.inl hn))))
    have b5 := z5 (fun n hn => hfs n (.inr (.inr (.inr hn))))
    rw [lenP]
    exact ⟨b2.1, b3.1, b4.1, b5.1, lenL_of b5.2⟩
theorem open_proto {H : Type} {enc : TypeId × Value → H} {w : World} {r : Reach} {b0 : Nat} {v : Value} {d : DataW H} {ps : List MemPlace} (hval : Value.okWide Tryd.prog w r b0 27 v) (hd : DataW.Trod enc Tryd.prog w 0 (fun _ => true) true 27 v d ps) :
    ∃ (p : S27) (A2 : Option Addr) (c2 : Nat) (A3 : Option Addr) (c3 : Nat) (A4 : Option Addr) (c4 : Nat) (A5 : Option Addr) (c5 : Nat), v = .agg #[.int .i64 p.f0, .int .i64 p.f1, .slice A2 p.f2.length c2, .slice A3 p.f3.length c3, .slice A4 p.f4.length c4, .slice A5 p.f5.length c5] ∧
      ((Kd.C k94 w A2 p.f2.length p.f2 ∧ p.f2.length ≤ c2) ∧ (Kd.C k36 w A3 p.f3.length p.f3 ∧ p.f3.length ≤ c3) ∧ (Kd.C k98 w A4 p.f4.length p.f4 ∧ p.f4.length ≤ c4) ∧ (Kd.C k27 w A5 p.f5.length p.f5 ∧ p.f5.length ≤ c5)) ∧
      wordsM p = true ∧ intsM p = true ∧ ((∀ n ∈ d.weights Tryd.prog 27, n ≤ reachBytes) → lenP p) := by
  obtain ⟨cs, rfl, hsz⟩ := Go.WideShapes.okWide_struct Tryd.underlying27 hval
  obtain ⟨fuel, hf⟩ := hd
  obtain ⟨p, hK, ⟨hw, hi⟩, hz⟩ := open_protos fuel _ _ hf
  obtain ⟨A2, c2, A3, c3, A4, c4, A5, c5, hcs, k2, C2, k3, C3, k4, C4, k5, C5⟩ := k27_open hK
  refine ⟨p, A2, c2, A3, c3, A4, c4, A5, c5, ?_, ⟨⟨C2, k2⟩, ⟨C3, k3⟩, ⟨C4, k4⟩, ⟨C5, k5⟩⟩, hw, hi, hz⟩
  have hcs' : cs.toList = [.int .i64 p.f0, .int .i64 p.f1, .slice A2 p.f2.length c2, .slice A3 p.f3.length c3, .slice A4 p.f4.length c4, .slice A5 p.f5.length c5] := hcs
  congr 1
  exact Array.ext' (by simpa using hcs')
end Go.Proofs.YtlhnkfheojlghaaDoor.Pr
end
section
namespace Go.Proofs.YtlhnkfheojlghaaDoor.Pure
open Go.RowKit Go.Proofs.YtlhnkfheojlghaaDoor.Pr Go.Proofs.YtlhnkfheojlghaaDoorW.PrintWords Go.Proofs.YtlhnkfheojlghaaDoorW.PrintLast Go.Proofs.YtlhnkfheojlghaaDoorW.PrintMore
theorem ProgChecks (p : S27) (hw : wordsM p = true) (hi : intsM p = true) (hl : lenP p) : ∃ k, minstrellaw13_ProgChecks.f k p.f0 p.f1 p.f2 p.f3 p.f4 p.f5 = some true := by
  obtain ⟨ok, h1, h2⟩ := small_top p hl
  have hL : Ev (fun _ => (minstrellaw13_lives.f).bind fun t => some t) true := by
    rw [lives_f]
    exact Ev.now _
  refine Ev.rounds (g := fun k => minstrellaw13_ProgChecks.f k p.f0 p.f1 p.f2 p.f3 p.f4 p.f5) ?_
  delta minstrellaw13_ProgChecks.f
  refine Ev.bind h1 ?_
  cases ok with
  | false => simp only [Bool.false_eq_true, if_false]; exact hL
  | true =>
    have hs := h2 rfl
    have ho := own_ev _ p (Nat.le_refl _) hs
    have hc : prog_Check.f p.f0 p.f1 p.f2 p.f3 p.f4 p.f5 = some (chk p none 0 0).2 := by
      unfold prog_Check.f
      rw [eta27, if_pos hw]
    have ht := text_len p hs hi
    have hp : prog_Print.f p.f0 p.f1 p.f2 p.f3 p.f4 p.f5 = some (bl (textP p)) := by
      unfold prog_Print.f
      rw [eta27, if_pos ⟨hi, by omega⟩]
      rfl
    simp only [if_true]
    refine Ev.bind ho ?_
    simp only [hc, Option.bind_some]
    refine Ev.bind (Check_ev p hw hl) ?_
    simp only [if_true]
    refine Ev.bind ho ?_
    simp only [hp, Option.bind_some]
    refine Ev.bind (Print_ev _ p (Nat.le_refl _) hs hi) ?_
    simp only [if_true]
    exact hL
end Go.Proofs.YtlhnkfheojlghaaDoor.Pure
end
section
namespace Go.Proofs.YtlhnkfheojlghaaDoor.Pr
open Go.RowKit
def ordData {H : Type} (zs : List S63) : DataW H := .agg (zs.map fun z => .agg [.lit (.string z.f0.data.toList), .lit (.string z.f1.data.toList), .lit (.int .i64 z.f2)])
theorem bytes_inj {a b : ByteArray} (h : a.data.toList = b.data.toList) : a = b := by
  cases a; cases b
  congr 1
  exact Array.toList_inj.1 h
set_option maxRecDepth 100000 in
theorem cells_of_ords {H : Type} {enc : TypeId × Value → H} {w : World} {base : Nat} {sp : Nat → Bool} {held : Bool} {fuel : Nat} {cs : List Value} {zs : List S63} {p : List MemPlace}
    (h : DataW.trod enc Tryd.prog w base sp held fuel 91 cs = some (ordData zs, p)) (i : Nat) (hi : i < 38) (z : S63) (hz : zs[i]? = some z) :
    cs[i * 3]? = some (.string z.f0) ∧ cs[i * 3 + 1]? = some (.string z.f1) ∧ cs[i * 3 + 2]? = some (.int .i64 z.f2) := by
  have hce : Tryd.prog.cellsOf 63 = 3 := by kernel_rfl
  have hct : Tryd.prog.cellsOf 91 = 114 := by kernel_rfl
  cases fuel with
  | zero => simp [DataW.trod] at h
  | succ fuel =>
    simp only [DataW.trod, Tryd.underlying91, hce, hct] at h
    split at h
    · rename_i hl
      obtain ⟨xs, hm, hx⟩ := Option.map_eq_some_iff.1 h
      have hxs : xs.map (·.1) = zs.map fun z => (DataW.agg [.lit (.string z.f0.data.toList), .lit (.string z.f1.data.toList), .lit (.int .i64 z.f2)] : DataW H) := by
        have := congrArg Prod.fst hx
        simpa [ordData] using this
      obtain ⟨b, hb, hf⟩ := Lib.mapM_at hm i i (by simp [hi])
      have hb1 : b.1 = (DataW.agg [.lit (.string z.f0.data.toList), .lit (.string z.f1.data.toList), .lit (.int .i64 z.f2)] : DataW H) := by
        have h2 : (xs.map (·.1))[i]? = some b.1 := by simp [hb]
        rw [hxs] at h2
        simp only [List.getElem?_map, hz, Option.map_some, Option.some.injEq] at h2
        exact h2.symm
      obtain ⟨ys, n, hn, hy, hl2, hlen, hf2⟩ := DataW.trod_struct Tryd.underlying63 hf
      have hyl : ys.length = 3 := hlen
      obtain ⟨y0, y1, y2, rfl⟩ : ∃ y0 y1 y2, ys = [y0, y1, y2] := by
        match ys, hyl with
        | [a, b, c], _ => exact ⟨a, b, c, rfl⟩
      rw [hy] at hb1
      simp only [List.map_cons, List.map_nil, DataW.agg.injEq, List.cons.injEq, and_true] at hb1
      have hc : ∀ k, k < 3 → cs[i * 3 + k]? = (List.take 3 (List.drop (i * 3) cs))[k]? := fun k hk => by
        rw [List.getElem?_take, if_pos hk, List.getElem?_drop]
      rw [show Tryd.prog.cellsOf 63 = 3 by kernel_rfl] at hl2
      generalize List.take 3 (List.drop (i * 3) cs) = c3 at hc hf2 hl2
      obtain ⟨v0, v1, v2, rfl⟩ : ∃ v0 v1 v2, c3 = [v0, v1, v2] := by
        match c3, hl2 with
        | [a, b, c], _ => exact ⟨a, b, c, rfl⟩
      have g0 : DataW.trod enc Tryd.prog w base sp held n 9 [v0] = some y0 := hf2 0 _ rfl
      have g1 : DataW.trod enc Tryd.prog w base sp held n 9 [v1] = some y1 := hf2 1 _ rfl
      have g2 : DataW.trod enc Tryd.prog w base sp held n 3 [v2] = some y2 := hf2 2 _ rfl
      obtain ⟨s0, e0, hs0, _⟩ := DataW.trod_string Tryd.underlying9 g0
      obtain ⟨s1, e1, hs1, _⟩ := DataW.trod_string Tryd.underlying9 g1
      obtain ⟨s2, e2, hs2, _⟩ := DataW.trod_int Tryd.underlying3 g2
      injection e0 with e0 _
      injection e1 with e1 _
      injection e2 with e2 _
      rw [hs0] at hb1
      rw [hs1] at hb1
      rw [hs2] at hb1
      simp only [DataW.lit.injEq, Lit.string.injEq, Lit.int.injEq, true_and] at hb1
      obtain ⟨q0, q1, q2⟩ := hb1
      obtain rfl := bytes_inj q0
      obtain rfl := bytes_inj q1
      subst q2
      exact ⟨by rw [← Nat.add_zero (i * 3), hc 0 (by omega), e0]; rfl, by rw [hc 1 (by omega), e1]; rfl, by rw [hc 2 (by omega), e2]; rfl⟩
    · cases h
theorem tabLaid_of_head {W : World} {rest : List (String × DataW Unit)} (h : laidMet Tryd.prog (("minstrel/prog.orders", ordData ordersL) :: rest) W) : TabLaid W := by
  have hg : Tryd.prog.globalNamed "minstrel/prog.orders" = some 0 := by kernel_rfl
  have hty : (Tryd.prog.globals[0]?).map (·.type) = some 91 := by kernel_rfl
  obtain ⟨ps, ⟨g', t', cs, fuel, p, q, hg', ht', hvar, hd, _, _⟩, _⟩ := h
  obtain rfl := Option.some.inj (hg.symm.trans hg')
  obtain rfl := Option.some.inj (hty.symm.trans ht')
  intro i hi
  have hz : ordersL[i]? = some (ordersL.getD i z63) := by
    have hl : i < ordersL.length := by simpa [ordersL] using hi
    simp [List.getD, hl]
  obtain ⟨h0, h1, h2⟩ := cells_of_ords hd i hi _ hz
  rw [Array.getElem?_toList] at h0 h1 h2
  exact ⟨(World.var?_cell hg hvar _).trans h0, (World.var?_cell hg hvar _).trans h1, (World.var?_cell hg hvar _).trans h2⟩
end Go.Proofs.YtlhnkfheojlghaaDoor.Pr
end
