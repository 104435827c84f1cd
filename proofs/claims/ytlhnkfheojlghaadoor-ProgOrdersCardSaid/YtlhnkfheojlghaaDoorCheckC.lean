/- The checker's function, prog.check, prog.Check: contracts of their calls. -/
import Derived.Test.YtlhnkfheojlghaaDoorChkD
namespace Go.Proofs.YtlhnkfheojlghaaDoor.Pr
open Go.RowKit Go.Proofs.YtlhnkfheojlghaaDoorW.PrintWords Go.Proofs.YtlhnkfheojlghaaDoorW.PrintLast Go.Proofs.YtlhnkfheojlghaaDoorW.PrintMore
set_option linter.unusedVariables false
set_option linter.unusedSimpArgs false
structure Moved (F : Nat → Prop) (w w' : World) : Prop where
  os : w'.os = w.os
  tape : w'.tape = w.tape
  output : w'.output = w.output
  size : w.heap.size ≤ w'.heap.size
  block : ∀ k, k < w.heap.size → ¬ F k → w'.heap[k]? = w.heap[k]?
theorem Moved.refl (F : Nat → Prop) (w : World) : Moved F w w := ⟨rfl, rfl, rfl, Nat.le_refl _, fun _ _ _ => rfl⟩
theorem Moved.alloc {F : Nat → Prop} {w w' : World} (h : Moved F w w') (o : Obj) : Moved F w (w'.alloc o) :=
  ⟨h.os, h.tape, h.output, by have := h.size; simp; omega, fun k hk hF => (Below.heap_alloc w' o k (Nat.lt_of_lt_of_le hk h.size)).trans (h.block k hk hF)⟩
theorem Moved.setCell {F : Nat → Prop} {w w' : World} (h : Moved F w w') {a : Addr} (ha : F a.block ∨ w.heap.size ≤ a.block) (v : Value) : Moved F w (w'.setCell a v) :=
  ⟨h.os, h.tape, h.output, by have := h.size; simpa [World.setCell] using this, fun k hk hF => (Below.heap_setCell w' a v k (fun e => by subst e; exact ha.elim hF (fun h => by omega))).trans (h.block k hk hF)⟩
theorem Moved.trans {F G : Nat → Prop} {a b c : World} (h : Moved F a b) (k : Moved G b c) (hG : ∀ i, G i → F i ∨ a.heap.size ≤ i) : Moved F a c :=
  ⟨k.os.trans h.os, k.tape.trans h.tape, k.output.trans h.output, Nat.le_trans h.size k.size, fun i hi hF => (k.block i (Nat.lt_of_lt_of_le hi h.size) (fun hg => (hG i hg).elim hF (fun h => by omega))).trans (h.block i hi hF)⟩
theorem Moved.below {F : Nat → Prop} {w w' : World} {B : Nat} (h : Moved F w w') (hF : ∀ k, F k → B ≤ k) (hB : B ≤ w.heap.size) : Below B w w' :=
  ⟨h.os, h.tape, h.output, h.size, fun k hk => h.block k (by omega) (fun hf => by have := hF k hf; omega)⟩
theorem Moved.of_below {F : Nat → Prop} {w w' : World} (h : Below w.heap.size w w') : Moved F w w' := ⟨h.os, h.tape, h.output, h.size, fun k hk _ => h.block k hk⟩
theorem Moved.next {F : Nat → Prop} {a b c : World} (h : Moved F a b) (k : Below b.heap.size b c) : Moved F a c := h.trans (G := fun _ => False) (Moved.of_below k) (fun _ h => h.elim)
mutual
theorem chk_bound : ∀ (p : S27) (ab : Option (Int × Int)) (d m : Int), 0 ≤ m → 0 ≤ (chk p ab d m).1 ∧ ((chk p ab d m).2 = 0 → (chk p ab d m).1 ≤ 4096)
  | ⟨f0, f1, f2, f3, f4, f5⟩, ab, d, m, h => by
    rw [chk]
    split
    · exact ⟨by dsimp only; omega, fun h => by simp at h⟩
    · rename_i hl
      split
      · exact ⟨by dsimp only; omega, fun h => by simp at h⟩
      · split
        · refine chkL_bound f5 _ _ _ (by omega) ?_
          simp [longM] at hl
          omega
        · exact ⟨by dsimp only; omega, fun h => by simp at h⟩
theorem chkL_bound : ∀ (l : List S27) (ab : Int × Int) (d m : Int), 0 ≤ m → m ≤ 4096 → 0 ≤ (chkL l ab d m).1 ∧ ((chkL l ab d m).2 = 0 → (chkL l ab d m).1 ≤ 4096)
  | [], ab, d, m, h, h2 => by rw [chkL]; exact ⟨h, fun _ => h2⟩
  | p :: l, ab, d, m, h, h2 => by
    rw [chkL]
    have hb := chk_bound p (some ab) d m h
    split
    · rename_i h0
      exact chkL_bound l ab d _ hb.1 (hb.2 h0)
    · exact hb
end
theorem wordsL_mem : ∀ {l : List S27} {p : S27}, wordsL l = true → p ∈ l → wordsM p = true
  | [], _, _, h => by cases h
  | q :: l, p, h, hp => by
    rw [wordsL, Bool.and_eq_true] at h
    rcases List.mem_cons.1 hp with rfl | hp
    · exact h.1
    · exact wordsL_mem h.2 hp
theorem words_consts {p : S27} (h : wordsM p = true) : ∀ v ∈ p.f4, wordV v := by
  rw [wordsM_eq, Bool.and_eq_true] at h
  intro v hv
  have := List.all_eq_true.1 h.1 v hv
  rw [Bool.and_eq_true] at this
  exact ⟨of_decide_eq_true this.1, of_decide_eq_true this.2⟩
theorem words_protos {p : S27} (h : wordsM p = true) : wordsL p.f5 = true := by
  rw [wordsM_eq, Bool.and_eq_true] at h
  exact h.2
theorem sizeOf_mem {p q : S27} (h : q ∈ p.f5) : SizeOf.sizeOf q < SizeOf.sizeOf p := by
  have h1 := List.sizeOf_lt_of_mem h
  obtain ⟨f0, f1, f2, f3, f4, f5⟩ := p
  simp at h1 ⊢
  omega
theorem all_drop {α : Type} (f : α → Bool) (l : List α) (h : ∀ j (hj : j < l.length), f l[j] = true) : l.all f = true := by
  rw [List.all_eq_true]
  intro x hx
  obtain ⟨i, hi, rfl⟩ := List.mem_iff_getElem.1 hx
  exact h i hi
theorem all_not {α : Type} (f : α → Bool) (l : List α) (k : Nat) (hk : k < l.length) (h : f l[k] = false) : l.all f = false := by
  rw [List.all_eq_false]
  exact ⟨l[k], List.getElem_mem _, by rw [h]; simp⟩
theorem chkL_drop (l : List S27) (k : Nat) (hk : k < l.length) (ab : Int × Int) (d m : Int) : chkL (l.drop k) ab d m = if (chk l[k] (some ab) d m).2 = 0 then chkL (l.drop (k + 1)) ab d (chk l[k] (some ab) d m).1 else chk l[k] (some ab) d m := by
  rw [List.drop_eq_getElem_cons hk, chkL]
theorem lt_of_blk {w : World} {b : Nat} {o : Obj} (h : w.heap[b]? = some o) : b < w.heap.size := (Array.getElem?_eq_some_iff.1 h).1
set_option maxRecDepth 100000 in
set_option maxHeartbeats 8000000 in
theorem function_calls (n : Nat) : ∀ (p : S27), SizeOf.sizeOf p ≤ n → ∀ (w0 w : World) (hb : Below w0.heap.size w0 w) (hG : OrdersLaid w0) (A2 : Option Addr) (c2 : Nat) (A3 : Option Addr) (c3 : Nat) (A4 : Option Addr) (c4 : Nat) (A5 : Option Addr) (c5 : Nat)
    (C2 : Kd.C k94 w0 A2 p.f2.length p.f2) (C3 : Kd.C k36 w0 A3 p.f3.length p.f3) (C4 : Kd.C k98 w0 A4 p.f4.length p.f4) (C5 : Kd.C k27 w0 A5 p.f5.length p.f5) (K2 : p.f2.length ≤ c2) (K3 : p.f3.length ≤ c3) (K4 : p.f4.length ≤ c4) (K5 : p.f5.length ≤ c5) (hw : wordsM p = true)
    (cb : Nat) (hcb : w0.heap.size ≤ cb) (ab : Option (Int × Int)) (v : Value) (deep many : Int) (hcell : w.heap[cb]? = some (.cells #[.int .i64 many] 75 (0, 0))) (ha : AboutIs w ab v) (hne : ∀ b, v = .pointer (some ⟨b, 0, none⟩) → b ≠ cb)
    (hd0 : 0 ≤ deep) (hd1 : deep ≤ 101) (hm0 : 0 ≤ many) (hm1 : many ≤ 4096),
    Calls Tryd.prog 42 #[.pointer (some ⟨cb, 0, none⟩), .agg #[.int .i64 p.f0, .int .i64 p.f1, .slice A2 p.f2.length c2, .slice A3 p.f3.length c3, .slice A4 p.f4.length c4, .slice A5 p.f5.length c5], v, .int .i64 deep] w fun e w' => e = .returned (.int .i64 (chk p ab deep many).2) ∧ Moved (fun k => k = cb) w w' ∧ w'.heap[cb]? = some (.cells #[.int .i64 (chk p ab deep many).1] 75 (0, 0)) := by
  induction n with
  | zero => intro p hp; exfalso; obtain ⟨f0, f1, f2, f3, f4, f5⟩ := p; simp at hp
  | succ n ih =>
  intro p hp w0 w hb hG A2 c2 A3 c3 A4 c4 A5 c5 C2 C3 C4 C5 K2 K3 K4 K5 hw cb hcb ab v deep many hcell ha hne hd0 hd1 hm0 hm1
  have hcw : cb < w.heap.size := (Array.getElem?_eq_some_iff.1 hcell).1
  have IH := Aside0.mk ih
  have HP := Aside0.mk hp
  have HB := Aside0.mk hb
  have HG := Aside0.mk hG
  have HC2 := Aside0.mk C2
  have HC3 := Aside0.mk C3
  have HC4 := Aside0.mk C4
  have HC5 := Aside0.mk C5
  have HW := Aside0.mk hw
  have HNE := Aside0.mk hne
  have HK2 := Aside0.mk K2
  have HK3 := Aside0.mk K3
  have HK4 := Aside0.mk K4
  have HK5 := Aside0.mk K5
  clear K2 K3 K4 K5
  have n2 : (p.f2.length : Int) ≤ 9223372036854775807 := by have := C2.2.1; omega
  have n3 : (p.f3.length : Int) ≤ 9223372036854775807 := by have := C3.2.1; omega
  have n4 : (p.f4.length : Int) ≤ 9223372036854775807 := by have := C4.2.1; omega
  have n5 : (p.f5.length : Int) ≤ 9223372036854775807 := by have := C5.2.1; omega
  have hwr : wrap64 (many + 1) = many + 1 := wrap_id (by omega) (by omega)
  have hwd : wrap64 (deep + 1) = deep + 1 := wrap_id (by omega) (by omega)
  have hc0 : (w.alloc (.cells #[.int .i64 p.f0, .int .i64 p.f1, .slice A2 p.f2.length c2, .slice A3 p.f3.length c3, .slice A4 p.f4.length c4, .slice A5 p.f5.length c5] 27)).cell? ⟨cb, 0, none⟩ = some (.int .i64 many) := row_at ((Below.heap_alloc w _ cb hcw).trans hcell) 0 _ rfl
  have hcf : (w.alloc (.cells #[.int .i64 p.f0, .int .i64 p.f1, .slice A2 p.f2.length c2, .slice A3 p.f3.length c3, .slice A4 p.f4.length c4, .slice A5 p.f5.length c5] 27)).frozen? ⟨cb, 0, none⟩ = false := blk_frozen ((Below.heap_alloc w _ cb hcw).trans hcell) 0
  have M2 : Aside0 (Moved (fun k => k = cb) w ((w.setCell ⟨cb, 0, none⟩ (.int .i64 (many + 1))).alloc (.cells #[.int .i64 p.f0, .int .i64 p.f1, .slice A2 p.f2.length c2, .slice A3 p.f3.length c3, .slice A4 p.f4.length c4, .slice A5 p.f5.length c5] 27))) := ⟨((Moved.refl (fun k => k = cb) w).setCell (a := ⟨cb, 0, none⟩) (Or.inl rfl) _).alloc _⟩
  have PB : Aside0 (((w.setCell ⟨cb, 0, none⟩ (.int .i64 (many + 1))).alloc (.cells #[.int .i64 p.f0, .int .i64 p.f1, .slice A2 p.f2.length c2, .slice A3 p.f3.length c3, .slice A4 p.f4.length c4, .slice A5 p.f5.length c5] 27)).heap[w.heap.size]? = some (.cells #[.int .i64 p.f0, .int .i64 p.f1, .slice A2 p.f2.length c2, .slice A3 p.f3.length c3, .slice A4 p.f4.length c4, .slice A5 p.f5.length c5] 27 (0, 0))) := ⟨by have h := heap_alloc_new (w.setCell ⟨cb, 0, none⟩ (.int .i64 (many + 1))) (.cells #[.int .i64 p.f0, .int .i64 p.f1, .slice A2 p.f2.length c2, .slice A3 p.f3.length c3, .slice A4 p.f4.length c4, .slice A5 p.f5.length c5] 27); rw [show (w.setCell ⟨cb, 0, none⟩ (.int .i64 (many + 1))).heap.size = w.heap.size by simp [World.setCell]] at h; exact h⟩
  have CB : Aside0 (((w.setCell ⟨cb, 0, none⟩ (.int .i64 (many + 1))).alloc (.cells #[.int .i64 p.f0, .int .i64 p.f1, .slice A2 p.f2.length c2, .slice A3 p.f3.length c3, .slice A4 p.f4.length c4, .slice A5 p.f5.length c5] 27)).heap[cb]? = some (.cells #[.int .i64 (many + 1)] 75 (0, 0))) := ⟨(Below.heap_alloc _ _ cb (by simpa [World.setCell] using hcw)).trans (by rw [blk_set hcell 0 _]; rfl)⟩
  have r0 : ((w.setCell ⟨cb, 0, none⟩ (.int .i64 (many + 1))).alloc (.cells #[.int .i64 p.f0, .int .i64 p.f1, .slice A2 p.f2.length c2, .slice A3 p.f3.length c3, .slice A4 p.f4.length c4, .slice A5 p.f5.length c5] 27)).cell? ⟨w.heap.size, 0, none⟩ = some (.int .i64 p.f0) := row_at PB.out 0 _ rfl
  have r1 : ((w.setCell ⟨cb, 0, none⟩ (.int .i64 (many + 1))).alloc (.cells #[.int .i64 p.f0, .int .i64 p.f1, .slice A2 p.f2.length c2, .slice A3 p.f3.length c3, .slice A4 p.f4.length c4, .slice A5 p.f5.length c5] 27)).cell? ⟨w.heap.size, 1, none⟩ = some (.int .i64 p.f1) := row_at PB.out 1 _ rfl
  have r2 : ((w.setCell ⟨cb, 0, none⟩ (.int .i64 (many + 1))).alloc (.cells #[.int .i64 p.f0, .int .i64 p.f1, .slice A2 p.f2.length c2, .slice A3 p.f3.length c3, .slice A4 p.f4.length c4, .slice A5 p.f5.length c5] 27)).cell? ⟨w.heap.size, 2, none⟩ = some (.slice A2 p.f2.length c2) := row_at PB.out 2 _ rfl
  have r3 : ((w.setCell ⟨cb, 0, none⟩ (.int .i64 (many + 1))).alloc (.cells #[.int .i64 p.f0, .int .i64 p.f1, .slice A2 p.f2.length c2, .slice A3 p.f3.length c3, .slice A4 p.f4.length c4, .slice A5 p.f5.length c5] 27)).cell? ⟨w.heap.size, 3, none⟩ = some (.slice A3 p.f3.length c3) := row_at PB.out 3 _ rfl
  have r4 : ((w.setCell ⟨cb, 0, none⟩ (.int .i64 (many + 1))).alloc (.cells #[.int .i64 p.f0, .int .i64 p.f1, .slice A2 p.f2.length c2, .slice A3 p.f3.length c3, .slice A4 p.f4.length c4, .slice A5 p.f5.length c5] 27)).cell? ⟨w.heap.size, 4, none⟩ = some (.slice A4 p.f4.length c4) := row_at PB.out 4 _ rfl
  have r5 : ((w.setCell ⟨cb, 0, none⟩ (.int .i64 (many + 1))).alloc (.cells #[.int .i64 p.f0, .int .i64 p.f1, .slice A2 p.f2.length c2, .slice A3 p.f3.length c3, .slice A4 p.f4.length c4, .slice A5 p.f5.length c5] 27)).cell? ⟨w.heap.size, 5, none⟩ = some (.slice A5 p.f5.length c5) := row_at PB.out 5 _ rfl
  have rc : ((w.setCell ⟨cb, 0, none⟩ (.int .i64 (many + 1))).alloc (.cells #[.int .i64 p.f0, .int .i64 p.f1, .slice A2 p.f2.length c2, .slice A3 p.f3.length c3, .slice A4 p.f4.length c4, .slice A5 p.f5.length c5] 27)).cell? ⟨cb, 0, none⟩ = some (.int .i64 (many + 1)) := row_at CB.out 0 _ rfl
  have hA2 : Aside0 (AboutIs ((w.setCell ⟨cb, 0, none⟩ (.int .i64 (many + 1))).alloc (.cells #[.int .i64 p.f0, .int .i64 p.f1, .slice A2 p.f2.length c2, .slice A3 p.f3.length c3, .slice A4 p.f4.length c4, .slice A5 p.f5.length c5] 27)) ab v) := ⟨by
    cases ab with
    | none => exact ha
    | some x =>
      obtain ⟨r, u⟩ := x
      obtain ⟨b, A, m, c, h1, h2, h3, h4⟩ := ha
      have hb1 := World.block_lt_of_cell? w _ h2
      have hbb : ((w.setCell ⟨cb, 0, none⟩ (.int .i64 (many + 1))).alloc (.cells #[.int .i64 p.f0, .int .i64 p.f1, .slice A2 p.f2.length c2, .slice A3 p.f3.length c3, .slice A4 p.f4.length c4, .slice A5 p.f5.length c5] 27)).heap[b]? = w.heap[b]? := M2.out.block b hb1 (hne b h1)
      exact ⟨b, A, m, c, h1, (World.cell?_of_block (a := ⟨b, 1, none⟩) hbb).trans h2, (World.cell?_of_block (a := ⟨b, 2, none⟩) hbb).trans h3, h4⟩⟩
  have B2 : Aside0 (Below w0.heap.size w0 ((w.setCell ⟨cb, 0, none⟩ (.int .i64 (many + 1))).alloc (.cells #[.int .i64 p.f0, .int .i64 p.f1, .slice A2 p.f2.length c2, .slice A3 p.f3.length c3, .slice A4 p.f4.length c4, .slice A5 p.f5.length c5] 27))) := ⟨hb.trans (M2.out.below (fun k hk => by rw [hk]; exact hcb) hb.size)⟩
  have HCHK := Aside0.mk (chk_eq p ab deep many)
  have hcb0 := Aside0.mk hcb
  clear hb hG C2 C3 C4 C5 hw hcell ha hne ih hp hcb
  by_cases g0 : 131072 < (p.f3.length : Int)
  · have e0 : decide (131072 < (p.f3.length : Int)) = true := decide_eq_true g0
    have HR : Aside0 (chk p ab deep many = (many + 1, 2)) := ⟨by rw [HCHK.out, if_pos (by simp [longM, g0])]⟩
    rw [HR.out]
    go_enter Tryd.func42, Tryd.ntmps42
    go_wp2_with fail
    go_ret
    exact ⟨rfl, M2.out, CB.out⟩
  have e0 : decide (131072 < (p.f3.length : Int)) = false := decide_eq_false g0
  by_cases g1 : 131072 < (p.f4.length : Int)
  · have e1 : decide (131072 < (p.f4.length : Int)) = true := decide_eq_true g1
    have HR : Aside0 (chk p ab deep many = (many + 1, 2)) := ⟨by rw [HCHK.out, if_pos (by simp [longM, g1])]⟩
    rw [HR.out]
    go_enter Tryd.func42, Tryd.ntmps42
    go_wp2_with fail
    go_ret
    exact ⟨rfl, M2.out, CB.out⟩
  have e1 : decide (131072 < (p.f4.length : Int)) = false := decide_eq_false g1
  by_cases g2 : 4096 < p.f1
  · have e2 : decide (4096 < p.f1) = true := decide_eq_true g2
    have HR : Aside0 (chk p ab deep many = (many + 1, 2)) := ⟨by rw [HCHK.out, if_pos (by simp [longM, g2])]⟩
    rw [HR.out]
    go_enter Tryd.func42, Tryd.ntmps42
    go_wp2_with fail
    go_ret
    exact ⟨rfl, M2.out, CB.out⟩
  have e2 : decide (4096 < p.f1) = false := decide_eq_false g2
  by_cases g3 : 60 < (p.f2.length : Int)
  · have e3 : decide (60 < (p.f2.length : Int)) = true := decide_eq_true g3
    have HR : Aside0 (chk p ab deep many = (many + 1, 2)) := ⟨by rw [HCHK.out, if_pos (by simp [longM, g3])]⟩
    rw [HR.out]
    go_enter Tryd.func42, Tryd.ntmps42
    go_wp2_with fail
    go_ret
    exact ⟨rfl, M2.out, CB.out⟩
  have e3 : decide (60 < (p.f2.length : Int)) = false := decide_eq_false g3
  by_cases g4 : 100 < deep
  · have e4 : decide (100 < deep) = true := decide_eq_true g4
    have HR : Aside0 (chk p ab deep many = (many + 1, 2)) := ⟨by rw [HCHK.out, if_pos (by simp [longM, g4])]⟩
    rw [HR.out]
    go_enter Tryd.func42, Tryd.ntmps42
    go_wp2_with fail
    go_ret
    exact ⟨rfl, M2.out, CB.out⟩
  have e4 : decide (100 < deep) = false := decide_eq_false g4
  by_cases g5 : 4096 < many + 1
  · have e5 : decide (4096 < many + 1) = true := decide_eq_true g5
    have HR : Aside0 (chk p ab deep many = (many + 1, 2)) := ⟨by rw [HCHK.out, if_pos (by simp [longM, g5])]⟩
    rw [HR.out]
    go_enter Tryd.func42, Tryd.ntmps42
    go_wp2_with fail
    go_ret
    exact ⟨rfl, M2.out, CB.out⟩
  have e5 : decide (4096 < many + 1) = false := decide_eq_false g5
  have HCH2 : Aside0 (chk p ab deep many = if selfBad p ab = true then (many + 1, 1) else if p.f3.all (canM p) = true then chkL p.f5 (p.f1, (p.f2.length : Int)) (deep + 1) (many + 1) else (many + 1, 1)) := ⟨by rw [HCHK.out, if_neg (by simp [longM]; omega)]⟩
  clear HCHK
  by_cases f0 : p.f0 < 0
  · have d0 : decide (p.f0 < 0) = true := decide_eq_true f0
    have HR : Aside0 (chk p ab deep many = (many + 1, 1)) := ⟨by rw [HCH2.out, if_pos (by simp [selfBad, f0])]⟩
    rw [HR.out]
    go_enter Tryd.func42, Tryd.ntmps42
    go_wp2_with fail
    go_ret
    exact ⟨rfl, M2.out, CB.out⟩
  have d0 : decide (p.f0 < 0) = false := decide_eq_false f0
  by_cases f1 : 30 < p.f0
  · have d1 : decide (30 < p.f0) = true := decide_eq_true f1
    have HR : Aside0 (chk p ab deep many = (many + 1, 1)) := ⟨by rw [HCH2.out, if_pos (by simp [selfBad, f1])]⟩
    rw [HR.out]
    go_enter Tryd.func42, Tryd.ntmps42
    go_wp2_with fail
    go_ret
    exact ⟨rfl, M2.out, CB.out⟩
  have d1 : decide (30 < p.f0) = false := decide_eq_false f1
  by_cases f2 : p.f1 < p.f0
  · have d2 : decide (p.f1 < p.f0) = true := decide_eq_true f2
    have HR : Aside0 (chk p ab deep many = (many + 1, 1)) := ⟨by rw [HCH2.out, if_pos (by simp [selfBad, f2])]⟩
    rw [HR.out]
    go_enter Tryd.func42, Tryd.ntmps42
    go_wp2_with fail
    go_ret
    exact ⟨rfl, M2.out, CB.out⟩
  have d2 : decide (p.f1 < p.f0) = false := decide_eq_false f2
  cases hbad : p.f4.any badC with
  | true =>
    have HR : Aside0 (chk p ab deep many = (many + 1, 1)) := ⟨by rw [HCH2.out, if_pos (by simp [selfBad, hbad])]⟩
    rw [HR.out]
    have CC := Aside0.mk (containsV_calls w0 ((w.setCell ⟨cb, 0, none⟩ (.int .i64 (many + 1))).alloc (.cells #[.int .i64 p.f0, .int .i64 p.f1, .slice A2 p.f2.length c2, .slice A3 p.f3.length c3, .slice A4 p.f4.length c4, .slice A5 p.f5.length c5] 27)) B2.out A4 c4 p.f4 HC4.out badC 64 #[] (by intro args W; kernel_rfl) (fun x hx W _ => bad_calls x (words_consts HW.out x hx) W))
    rw [hbad] at CC
    go_enter Tryd.func42, Tryd.ntmps42
    go_wp2_with (go_at_call 63; refine (CC.out).mono ?_; rintro e w3 ⟨rfl, hb3⟩; have B3 := Aside0.mk hb3; have PB3 := Aside0.mk ((hb3.block w.heap.size (lt_of_blk PB.out)).trans PB.out); have CB3 := Aside0.mk ((hb3.block cb (lt_of_blk CB.out)).trans CB.out); clear hb3; have s0 : w3.cell? ⟨w.heap.size, 0, none⟩ = some (.int .i64 p.f0) := row_at PB3.out 0 _ rfl; have s1 : w3.cell? ⟨w.heap.size, 1, none⟩ = some (.int .i64 p.f1) := row_at PB3.out 1 _ rfl; have s2 : w3.cell? ⟨w.heap.size, 2, none⟩ = some (.slice A2 p.f2.length c2) := row_at PB3.out 2 _ rfl; have s3 : w3.cell? ⟨w.heap.size, 3, none⟩ = some (.slice A3 p.f3.length c3) := row_at PB3.out 3 _ rfl; have s4 : w3.cell? ⟨w.heap.size, 4, none⟩ = some (.slice A4 p.f4.length c4) := row_at PB3.out 4 _ rfl; have s5 : w3.cell? ⟨w.heap.size, 5, none⟩ = some (.slice A5 p.f5.length c5) := row_at PB3.out 5 _ rfl)
    go_ret
    exact ⟨rfl, M2.out.next B3.out, CB3.out⟩
  | false =>
    have CC := Aside0.mk (containsV_calls w0 ((w.setCell ⟨cb, 0, none⟩ (.int .i64 (many + 1))).alloc (.cells #[.int .i64 p.f0, .int .i64 p.f1, .slice A2 p.f2.length c2, .slice A3 p.f3.length c3, .slice A4 p.f4.length c4, .slice A5 p.f5.length c5] 27)) B2.out A4 c4 p.f4 HC4.out badC 64 #[] (by intro args W; kernel_rfl) (fun x hx W _ => bad_calls x (words_consts HW.out x hx) W))
    rw [hbad] at CC
    have EE := Aside0.mk (ends_f p.f0 p.f1 p.f2 p.f3 p.f4 p.f5 n3)
    cases hend : endsM p.f3 with
    | false =>
      have HR : Aside0 (chk p ab deep many = (many + 1, 1)) := ⟨by rw [HCH2.out, if_pos (by simp [selfBad, hend])]⟩
      rw [HR.out]
      rw [hend] at EE
      go_enter Tryd.func42, Tryd.ntmps42
      go_wp2_with (first | (go_at_call 63; refine (CC.out).mono ?_; rintro e w3 ⟨rfl, hb3⟩; have B3 := Aside0.mk hb3; have PB3 := Aside0.mk ((hb3.block w.heap.size (lt_of_blk PB.out)).trans PB.out); have CB3 := Aside0.mk ((hb3.block cb (lt_of_blk CB.out)).trans CB.out); clear hb3; have s0 : w3.cell? ⟨w.heap.size, 0, none⟩ = some (.int .i64 p.f0) := row_at PB3.out 0 _ rfl; have s1 : w3.cell? ⟨w.heap.size, 1, none⟩ = some (.int .i64 p.f1) := row_at PB3.out 1 _ rfl; have s2 : w3.cell? ⟨w.heap.size, 2, none⟩ = some (.slice A2 p.f2.length c2) := row_at PB3.out 2 _ rfl; have s3 : w3.cell? ⟨w.heap.size, 3, none⟩ = some (.slice A3 p.f3.length c3) := row_at PB3.out 3 _ rfl; have s4 : w3.cell? ⟨w.heap.size, 4, none⟩ = some (.slice A4 p.f4.length c4) := row_at PB3.out 4 _ rfl; have s5 : w3.cell? ⟨w.heap.size, 5, none⟩ = some (.slice A5 p.f5.length c5) := row_at PB3.out 5 _ rfl) | (go_at_call 66; refine (prog_ends.calls p.f0 p.f1 A2 c2 p.f2 A3 c3 p.f3 A4 c4 p.f4 A5 c5 p.f5 _ _ (Kd.C_below HC2.out (B2.out.trans (B3.out.mono B2.out.size))) HK2.out (Kd.C_below HC3.out (B2.out.trans (B3.out.mono B2.out.size))) HK3.out (Kd.C_below HC4.out (B2.out.trans (B3.out.mono B2.out.size))) HK4.out (Kd.C_below HC5.out (B2.out.trans (B3.out.mono B2.out.size))) HK5.out EE.out).mono ?_; rintro e w4 ⟨rfl, hb4⟩; have B4 := Aside0.mk hb4; have PB4 := Aside0.mk ((hb4.block w.heap.size (lt_of_blk PB3.out)).trans PB3.out); have CB4 := Aside0.mk ((hb4.block cb (lt_of_blk CB3.out)).trans CB3.out); clear hb4; have t0 : w4.cell? ⟨w.heap.size, 0, none⟩ = some (.int .i64 p.f0) := row_at PB4.out 0 _ rfl; have t1 : w4.cell? ⟨w.heap.size, 1, none⟩ = some (.int .i64 p.f1) := row_at PB4.out 1 _ rfl; have t2 : w4.cell? ⟨w.heap.size, 2, none⟩ = some (.slice A2 p.f2.length c2) := row_at PB4.out 2 _ rfl; have t3 : w4.cell? ⟨w.heap.size, 3, none⟩ = some (.slice A3 p.f3.length c3) := row_at PB4.out 3 _ rfl; have t4 : w4.cell? ⟨w.heap.size, 4, none⟩ = some (.slice A4 p.f4.length c4) := row_at PB4.out 4 _ rfl; have t5 : w4.cell? ⟨w.heap.size, 5, none⟩ = some (.slice A5 p.f5.length c5) := row_at PB4.out 5 _ rfl))
      go_ret
      exact ⟨rfl, (M2.out.next B3.out).next B4.out, CB4.out⟩
    | true =>
      rw [hend] at EE
      cases hups : upsM p.f2 ab with
      | false =>
        have HR : Aside0 (chk p ab deep many = (many + 1, 1)) := ⟨by rw [HCH2.out, if_pos (by simp [selfBad, hups])]⟩
        rw [HR.out]
        go_enter Tryd.func42, Tryd.ntmps42
        go_wp2_with (first | (go_at_call 63; refine (CC.out).mono ?_; rintro e w3 ⟨rfl, hb3⟩; have B3 := Aside0.mk hb3; have PB3 := Aside0.mk ((hb3.block w.heap.size (lt_of_blk PB.out)).trans PB.out); have CB3 := Aside0.mk ((hb3.block cb (lt_of_blk CB.out)).trans CB.out); clear hb3; have s0 : w3.cell? ⟨w.heap.size, 0, none⟩ = some (.int .i64 p.f0) := row_at PB3.out 0 _ rfl; have s1 : w3.cell? ⟨w.heap.size, 1, none⟩ = some (.int .i64 p.f1) := row_at PB3.out 1 _ rfl; have s2 : w3.cell? ⟨w.heap.size, 2, none⟩ = some (.slice A2 p.f2.length c2) := row_at PB3.out 2 _ rfl; have s3 : w3.cell? ⟨w.heap.size, 3, none⟩ = some (.slice A3 p.f3.length c3) := row_at PB3.out 3 _ rfl; have s4 : w3.cell? ⟨w.heap.size, 4, none⟩ = some (.slice A4 p.f4.length c4) := row_at PB3.out 4 _ rfl; have s5 : w3.cell? ⟨w.heap.size, 5, none⟩ = some (.slice A5 p.f5.length c5) := row_at PB3.out 5 _ rfl) | (go_at_call 66; refine (prog_ends.calls p.f0 p.f1 A2 c2 p.f2 A3 c3 p.f3 A4 c4 p.f4 A5 c5 p.f5 _ _ (Kd.C_below HC2.out (B2.out.trans (B3.out.mono B2.out.size))) HK2.out (Kd.C_below HC3.out (B2.out.trans (B3.out.mono B2.out.size))) HK3.out (Kd.C_below HC4.out (B2.out.trans (B3.out.mono B2.out.size))) HK4.out (Kd.C_below HC5.out (B2.out.trans (B3.out.mono B2.out.size))) HK5.out EE.out).mono ?_; rintro e w4 ⟨rfl, hb4⟩; have B4 := Aside0.mk hb4; have PB4 := Aside0.mk ((hb4.block w.heap.size (lt_of_blk PB3.out)).trans PB3.out); have CB4 := Aside0.mk ((hb4.block cb (lt_of_blk CB3.out)).trans CB3.out); clear hb4; have t0 : w4.cell? ⟨w.heap.size, 0, none⟩ = some (.int .i64 p.f0) := row_at PB4.out 0 _ rfl; have t1 : w4.cell? ⟨w.heap.size, 1, none⟩ = some (.int .i64 p.f1) := row_at PB4.out 1 _ rfl; have t2 : w4.cell? ⟨w.heap.size, 2, none⟩ = some (.slice A2 p.f2.length c2) := row_at PB4.out 2 _ rfl; have t3 : w4.cell? ⟨w.heap.size, 3, none⟩ = some (.slice A3 p.f3.length c3) := row_at PB4.out 3 _ rfl; have t4 : w4.cell? ⟨w.heap.size, 4, none⟩ = some (.slice A4 p.f4.length c4) := row_at PB4.out 4 _ rfl; have t5 : w4.cell? ⟨w.heap.size, 5, none⟩ = some (.slice A5 p.f5.length c5) := row_at PB4.out 5 _ rfl) | (go_at_call 67; have UU := (ups_calls w0 w4 (B2.out.trans ((B3.out.trans (B4.out.mono B3.out.size)).mono B2.out.size)) p.f0 p.f1 A2 c2 p.f2 HC2.out A3 p.f3.length c3 A4 p.f4.length c4 A5 p.f5.length c5 ab v ((hA2.out.below B3.out).below B4.out)); rw [hups] at UU; refine UU.mono ?_; clear UU; rintro e w5 ⟨rfl, hb5⟩; have B5 := Aside0.mk hb5; have PB5 := Aside0.mk ((hb5.block w.heap.size (lt_of_blk PB4.out)).trans PB4.out); have CB5 := Aside0.mk ((hb5.block cb (lt_of_blk CB4.out)).trans CB4.out); clear hb5; have y0 : w5.cell? ⟨w.heap.size, 0, none⟩ = some (.int .i64 p.f0) := row_at PB5.out 0 _ rfl; have y1 : w5.cell? ⟨w.heap.size, 1, none⟩ = some (.int .i64 p.f1) := row_at PB5.out 1 _ rfl; have y2 : w5.cell? ⟨w.heap.size, 2, none⟩ = some (.slice A2 p.f2.length c2) := row_at PB5.out 2 _ rfl; have y3 : w5.cell? ⟨w.heap.size, 3, none⟩ = some (.slice A3 p.f3.length c3) := row_at PB5.out 3 _ rfl; have y4 : w5.cell? ⟨w.heap.size, 4, none⟩ = some (.slice A4 p.f4.length c4) := row_at PB5.out 4 _ rfl; have y5 : w5.cell? ⟨w.heap.size, 5, none⟩ = some (.slice A5 p.f5.length c5) := row_at PB5.out 5 _ rfl))
        go_ret
        exact ⟨rfl, ((M2.out.next B3.out).next B4.out).next B5.out, CB5.out⟩
      | true =>
        have HCH3 : Aside0 (chk p ab deep many = if p.f3.all (canM p) = true then chkL p.f5 (p.f1, (p.f2.length : Int)) (deep + 1) (many + 1) else (many + 1, 1)) := ⟨by rw [HCH2.out, if_neg (by simp [selfBad, hbad, hend, hups]; omega)]⟩
        clear HCH2
        go_enter Tryd.func42, Tryd.ntmps42
        go_wp2_with (first | (go_at_call 63; refine (CC.out).mono ?_; rintro e w3 ⟨rfl, hb3⟩; have B3 := Aside0.mk hb3; have PB3 := Aside0.mk ((hb3.block w.heap.size (lt_of_blk PB.out)).trans PB.out); have CB3 := Aside0.mk ((hb3.block cb (lt_of_blk CB.out)).trans CB.out); clear hb3; have s0 : w3.cell? ⟨w.heap.size, 0, none⟩ = some (.int .i64 p.f0) := row_at PB3.out 0 _ rfl; have s1 : w3.cell? ⟨w.heap.size, 1, none⟩ = some (.int .i64 p.f1) := row_at PB3.out 1 _ rfl; have s2 : w3.cell? ⟨w.heap.size, 2, none⟩ = some (.slice A2 p.f2.length c2) := row_at PB3.out 2 _ rfl; have s3 : w3.cell? ⟨w.heap.size, 3, none⟩ = some (.slice A3 p.f3.length c3) := row_at PB3.out 3 _ rfl; have s4 : w3.cell? ⟨w.heap.size, 4, none⟩ = some (.slice A4 p.f4.length c4) := row_at PB3.out 4 _ rfl; have s5 : w3.cell? ⟨w.heap.size, 5, none⟩ = some (.slice A5 p.f5.length c5) := row_at PB3.out 5 _ rfl) | (go_at_call 66; refine (prog_ends.calls p.f0 p.f1 A2 c2 p.f2 A3 c3 p.f3 A4 c4 p.f4 A5 c5 p.f5 _ _ (Kd.C_below HC2.out (B2.out.trans (B3.out.mono B2.out.size))) HK2.out (Kd.C_below HC3.out (B2.out.trans (B3.out.mono B2.out.size))) HK3.out (Kd.C_below HC4.out (B2.out.trans (B3.out.mono B2.out.size))) HK4.out (Kd.C_below HC5.out (B2.out.trans (B3.out.mono B2.out.size))) HK5.out EE.out).mono ?_; rintro e w4 ⟨rfl, hb4⟩; have B4 := Aside0.mk hb4; have PB4 := Aside0.mk ((hb4.block w.heap.size (lt_of_blk PB3.out)).trans PB3.out); have CB4 := Aside0.mk ((hb4.block cb (lt_of_blk CB3.out)).trans CB3.out); clear hb4; have t0 : w4.cell? ⟨w.heap.size, 0, none⟩ = some (.int .i64 p.f0) := row_at PB4.out 0 _ rfl; have t1 : w4.cell? ⟨w.heap.size, 1, none⟩ = some (.int .i64 p.f1) := row_at PB4.out 1 _ rfl; have t2 : w4.cell? ⟨w.heap.size, 2, none⟩ = some (.slice A2 p.f2.length c2) := row_at PB4.out 2 _ rfl; have t3 : w4.cell? ⟨w.heap.size, 3, none⟩ = some (.slice A3 p.f3.length c3) := row_at PB4.out 3 _ rfl; have t4 : w4.cell? ⟨w.heap.size, 4, none⟩ = some (.slice A4 p.f4.length c4) := row_at PB4.out 4 _ rfl; have t5 : w4.cell? ⟨w.heap.size, 5, none⟩ = some (.slice A5 p.f5.length c5) := row_at PB4.out 5 _ rfl) | (go_at_call 67; have UU := (ups_calls w0 w4 (B2.out.trans ((B3.out.trans (B4.out.mono B3.out.size)).mono B2.out.size)) p.f0 p.f1 A2 c2 p.f2 HC2.out A3 p.f3.length c3 A4 p.f4.length c4 A5 p.f5.length c5 ab v ((hA2.out.below B3.out).below B4.out)); rw [hups] at UU; refine UU.mono ?_; clear UU; rintro e w5 ⟨rfl, hb5⟩; have B5 := Aside0.mk hb5; have PB5 := Aside0.mk ((hb5.block w.heap.size (lt_of_blk PB4.out)).trans PB4.out); have CB5 := Aside0.mk ((hb5.block cb (lt_of_blk CB4.out)).trans CB4.out); clear hb5; have y0 : w5.cell? ⟨w.heap.size, 0, none⟩ = some (.int .i64 p.f0) := row_at PB5.out 0 _ rfl; have y1 : w5.cell? ⟨w.heap.size, 1, none⟩ = some (.int .i64 p.f1) := row_at PB5.out 1 _ rfl; have y2 : w5.cell? ⟨w.heap.size, 2, none⟩ = some (.slice A2 p.f2.length c2) := row_at PB5.out 2 _ rfl; have y3 : w5.cell? ⟨w.heap.size, 3, none⟩ = some (.slice A3 p.f3.length c3) := row_at PB5.out 3 _ rfl; have y4 : w5.cell? ⟨w.heap.size, 4, none⟩ = some (.slice A4 p.f4.length c4) := row_at PB5.out 4 _ rfl; have y5 : w5.cell? ⟨w.heap.size, 5, none⟩ = some (.slice A5 p.f5.length c5) := row_at PB5.out 5 _ rfl))
        have M5 : Aside0 (Moved (fun k => k = cb) w w5) := ⟨((M2.out.next B3.out).next B4.out).next B5.out⟩
        have B05 : Aside0 (Below w0.heap.size w0 w5) := ⟨B2.out.trans ((B3.out.trans ((B4.out.trans (B5.out.mono B4.out.size)).mono B3.out.size)).mono B2.out.size)⟩
        have HCB0 : Aside0 (w0.heap.size ≤ cb) := hcb0
        clear M2 B2 B3 B4 PB PB3 PB4 CB CB3 CB4 rc r0 r1 r2 r3 r4 r5 s0 s1 s2 s3 s4 s5 t0 t1 t2 t3 t4 t5 hA2 CC EE HNE
        go_loopw [87] (fun s wr => ∃ k : Nat, s = .int .i64 k ∧ k ≤ p.f3.length ∧ Aside0 (Below w5.heap.size w5 wr) ∧ Aside0 (∀ j (hj : j < p.f3.length), j < k → canM p p.f3[j] = true)) (fun s _ => p.f3.length - (intOf s).toNat)
        case atStart => exact ⟨0, rfl, Nat.zero_le _, ⟨Below.refl _ _⟩, ⟨fun j hj h => absurd h (Nat.not_lt_zero _)⟩⟩
        case round =>
          obtain ⟨k, rfl, hk, hB, hN⟩ := hrel
          have PBr := Aside0.mk ((hB.out.block w.heap.size (lt_of_blk PB5.out)).trans PB5.out)
          have CBr := Aside0.mk ((hB.out.block cb (lt_of_blk CB5.out)).trans CB5.out)
          have B0r : Aside0 (Below w0.heap.size w0 wr) := ⟨B05.out.trans (hB.out.mono B05.out.size)⟩
          by_cases hlt : k < p.f3.length
          · have i1 : (k : Int) < (p.f3.length : Int) := by omega
            obtain ⟨ad, rfl, x0, x1, x2, x3⟩ := at_T36 (Kd.C_below HC3.out B0r.out) (k : Int) (by omega) (by omega)
            have hx : rd_T36 p.f3 (k : Int) = p.f3[k] := by simp [rd_T36, hlt]
            have HS := Aside0.mk (all_not (canM p) p.f3 k hlt)
            have HT := Aside0.mk (show ∀ h : canM p p.f3[k] = true, ∀ j (hj : j < p.f3.length), j < k + 1 → canM p p.f3[j] = true from fun h j hj hjk => by
              by_cases e : j = k
              · subst e; exact h
              · exact hN.out j hj (by omega))
            rw [hx] at x0 x1 x2 x3
            rw [Int.toNat_natCast] at x0 x1 x2 x3
            generalize p.f3[k] = i at x0 x1 x2 x3 HS HT
            have BA := Aside0.mk ((Below.refl wr.heap.size wr).alloc (Nat.le_refl _) (.cells #[.int .i64 i.f0, .int .i64 i.f1, .int .i64 i.f2, .int .i64 i.f3] 36))
            have PBA := Aside0.mk ((BA.out.block w.heap.size (lt_of_blk PBr.out)).trans PBr.out)
            have CBA := Aside0.mk ((BA.out.block cb (lt_of_blk CBr.out)).trans CBr.out)
            have a0 : (wr.alloc (.cells #[.int .i64 i.f0, .int .i64 i.f1, .int .i64 i.f2, .int .i64 i.f3] 36)).cell? ⟨w.heap.size, 0, none⟩ = some (.int .i64 p.f0) := row_at PBA.out 0 _ rfl
            have a1 : (wr.alloc (.cells #[.int .i64 i.f0, .int .i64 i.f1, .int .i64 i.f2, .int .i64 i.f3] 36)).cell? ⟨w.heap.size, 1, none⟩ = some (.int .i64 p.f1) := row_at PBA.out 1 _ rfl
            have a2 : (wr.alloc (.cells #[.int .i64 i.f0, .int .i64 i.f1, .int .i64 i.f2, .int .i64 i.f3] 36)).cell? ⟨w.heap.size, 2, none⟩ = some (.slice A2 p.f2.length c2) := row_at PBA.out 2 _ rfl
            have a3 : (wr.alloc (.cells #[.int .i64 i.f0, .int .i64 i.f1, .int .i64 i.f2, .int .i64 i.f3] 36)).cell? ⟨w.heap.size, 3, none⟩ = some (.slice (some ad) p.f3.length c3) := row_at PBA.out 3 _ rfl
            have a4 : (wr.alloc (.cells #[.int .i64 i.f0, .int .i64 i.f1, .int .i64 i.f2, .int .i64 i.f3] 36)).cell? ⟨w.heap.size, 4, none⟩ = some (.slice A4 p.f4.length c4) := row_at PBA.out 4 _ rfl
            have a5 : (wr.alloc (.cells #[.int .i64 i.f0, .int .i64 i.f1, .int .i64 i.f2, .int .i64 i.f3] 36)).cell? ⟨w.heap.size, 5, none⟩ = some (.slice A5 p.f5.length c5) := row_at PBA.out 5 _ rfl
            cases hcan : canM p i with
            | false =>
              have HR : Aside0 (chk p ab deep many = (many + 1, 1)) := ⟨by rw [HCH3.out, HS.out hcan, if_neg (by simp)]⟩
              go_wp2_with (go_at_call 68; refine (can_calls (wr.alloc (.cells #[.int .i64 i.f0, .int .i64 i.f1, .int .i64 i.f2, .int .i64 i.f3] 36)) (globBelow HG.out (B0r.out.trans (BA.out.mono B0r.out.size))) p A2 c2 (some ad) c3 A4 c4 A5 c5 i (by omega) (by omega) (by omega) (by omega)).mono ?_; rw [hcan]; rintro e w6 ⟨rfl, hb6⟩; have B6 := Aside0.mk hb6; clear hb6)
              go_ret
              rw [HR.out]
              exact ⟨rfl, ((M5.out.next hB.out).next BA.out).next B6.out, (B6.out.block cb (lt_of_blk CBA.out)).trans CBA.out⟩
            | true =>
              go_wp2_with (go_at_call 68; refine (can_calls (wr.alloc (.cells #[.int .i64 i.f0, .int .i64 i.f1, .int .i64 i.f2, .int .i64 i.f3] 36)) (globBelow HG.out (B0r.out.trans (BA.out.mono B0r.out.size))) p A2 c2 (some ad) c3 A4 c4 A5 c5 i (by omega) (by omega) (by omega) (by omega)).mono ?_; rw [hcan]; rintro e w6 ⟨rfl, hb6⟩; have B6 := Aside0.mk hb6; clear hb6)
              go_round
              case rel => exact ⟨k + 1, by go_num, by omega, ⟨hB.out.trans ((BA.out.trans (B6.out.mono BA.out.size)).mono hB.out.size)⟩, ⟨HT.out hcan⟩⟩
              case measure => simp [intOf]; omega
          · obtain rfl : k = p.f3.length := by omega
            have i1 : ¬ (p.f3.length : Int) < (p.f3.length : Int) := by omega
            have HR : Aside0 (chk p ab deep many = chkL p.f5 (p.f1, (p.f2.length : Int)) (deep + 1) (many + 1)) := ⟨by rw [HCH3.out, if_pos (all_drop _ _ (fun j hj => hN.out j hj hj))]⟩
            have M6 : Aside0 (Moved (fun k => k = cb) w wr) := ⟨M5.out.next hB.out⟩
            obtain ⟨w6, hw6⟩ : ∃ w6, w6 = wr := ⟨_, rfl⟩
            rw [← hw6] at M6 PBr CBr B0r ⊢
            clear hw6 hN hB HCH3
            have z0 : w6.cell? ⟨w.heap.size, 0, none⟩ = some (.int .i64 p.f0) := row_at PBr.out 0 _ rfl
            have z1 : w6.cell? ⟨w.heap.size, 1, none⟩ = some (.int .i64 p.f1) := row_at PBr.out 1 _ rfl
            have z2 : w6.cell? ⟨w.heap.size, 2, none⟩ = some (.slice A2 p.f2.length c2) := row_at PBr.out 2 _ rfl
            have z3 : w6.cell? ⟨w.heap.size, 3, none⟩ = some (.slice A3 p.f3.length c3) := row_at PBr.out 3 _ rfl
            have z4 : w6.cell? ⟨w.heap.size, 4, none⟩ = some (.slice A4 p.f4.length c4) := row_at PBr.out 4 _ rfl
            have z5 : w6.cell? ⟨w.heap.size, 5, none⟩ = some (.slice A5 p.f5.length c5) := row_at PBr.out 5 _ rfl
            go_wp2_with fail
            clear z0 z1 z2 z3 z4 z5
            go_loopw [99] (fun s wr => ∃ (k : Nat) (m : Int), s = .int .i64 k ∧ k ≤ p.f5.length ∧ Aside0 (Moved (fun k => k = cb) w6 wr) ∧ Aside0 (wr.heap[cb]? = some (.cells #[.int .i64 m] 75 (0, 0))) ∧ Aside0 (chkL p.f5 (p.f1, (p.f2.length : Int)) (deep + 1) (many + 1) = chkL (p.f5.drop k) (p.f1, (p.f2.length : Int)) (deep + 1) m ∧ 0 ≤ m ∧ m ≤ 4096)) (fun s _ => p.f5.length - (intOf s).toNat)
            case atStart => exact ⟨0, many + 1, rfl, Nat.zero_le _, ⟨Moved.refl _ _⟩, CBr, ⟨by rw [List.drop_zero], by omega, by omega⟩⟩
            case round =>
              obtain ⟨k, m, rfl, hk, hM, CBz, hN⟩ := hrel
              have hcw6 : w.heap.size < w6.heap.size := lt_of_blk PBr.out
              have hcwz : cb ≠ w.heap.size := by omega
              have PBz := Aside0.mk ((hM.out.block w.heap.size hcw6 (fun e => hcwz e.symm)).trans PBr.out)
              have B0z : Aside0 (Below w0.heap.size w0 wr) := ⟨B0r.out.trans (hM.out.below (fun k hk => by rw [hk]; exact HCB0.out) B0r.out.size)⟩
              by_cases hlt : k < p.f5.length
              · have i1 : (k : Int) < (p.f5.length : Int) := by omega
                obtain ⟨ad, D2, d2, D3, d3, D4, d4, D5, d5, rfl, x0, x1, x2, x3, x4, x5, e2, g2, e3, g3, e4, g4, e5, g5⟩ := at_T27 HC5.out (k : Int) (by omega) (by omega)
                have hx : rd_T27 p.f5 (k : Int) = p.f5[k] := by simp [rd_T27, hlt]
                have HQM := Aside0.mk (show p.f5[k] ∈ p.f5 from List.getElem_mem _)
                have HD := Aside0.mk (chkL_drop p.f5 k hlt (p.f1, (p.f2.length : Int)) (deep + 1) m)
                rw [hx] at x0 x1 x2 x3 x4 x5 e2 g2 e3 g3 e4 g4 e5 g5
                rw [Int.toNat_natCast] at x0 x1 x2 x3 x4 x5
                generalize p.f5[k] = q at x0 x1 x2 x3 x4 x5 e2 g2 e3 g3 e4 g4 e5 g5 HQM HD
                have G := Aside0.mk (And.intro g2 (And.intro g3 (And.intro g4 (And.intro g5 (And.intro e2 (And.intro e3 (And.intro e4 e5)))))))
                replace x0 := pw_cell_below B0z.out x0
                replace x1 := pw_cell_below B0z.out x1
                replace x2 := pw_cell_below B0z.out x2
                replace x3 := pw_cell_below B0z.out x3
                replace x4 := pw_cell_below B0z.out x4
                replace x5 := pw_cell_below B0z.out x5
                clear g2 g3 g4 g5 e2 e3 e4 e5 hx
                have BZ := Aside0.mk ((Below.refl wr.heap.size wr).alloc (Nat.le_refl _) (.cells #[.int .i64 q.f0, .int .i64 q.f1, .slice D2 q.f2.length d2, .slice D3 q.f3.length d3, .slice D4 q.f4.length d4, .slice D5 q.f5.length d5] 27))
                have PBA := Aside0.mk ((BZ.out.block w.heap.size (lt_of_blk PBz.out)).trans PBz.out)
                obtain ⟨rr, hrr⟩ : ∃ rr, chk q (some (p.f1, (p.f2.length : Int))) (deep + 1) m = rr := ⟨_, rfl⟩
                have hbd := chk_bound q (some (p.f1, (p.f2.length : Int))) (deep + 1) m hN.out.2.1
                rw [hrr] at HD hbd
                have HBD := Aside0.mk hbd
                clear hbd
                obtain ⟨ra, rb⟩ := rr
                dsimp only at HD HBD
                by_cases hz : rb = 0
                · subst hz
                  rw [if_pos rfl] at HD
                  go_wp2_with (go_at_call 42; refine (IH.out q (by have := sizeOf_mem HQM.out; have := HP.out; omega) w0 (wr.alloc (.cells #[.int .i64 q.f0, .int .i64 q.f1, .slice D2 q.f2.length d2, .slice D3 q.f3.length d3, .slice D4 q.f4.length d4, .slice D5 q.f5.length d5] 27)) (B0z.out.trans (BZ.out.mono B0z.out.size)) HG.out D2 d2 D3 d3 D4 d4 D5 d5 G.out.1 G.out.2.1 G.out.2.2.1 G.out.2.2.2.1 G.out.2.2.2.2.1 G.out.2.2.2.2.2.1 G.out.2.2.2.2.2.2.1 G.out.2.2.2.2.2.2.2 (wordsL_mem (words_protos HW.out) HQM.out) cb HCB0.out (some (p.f1, (p.f2.length : Int))) (.pointer (some ⟨w.heap.size, 0, none⟩)) (deep + 1) m ((BZ.out.block cb (lt_of_blk CBz.out)).trans CBz.out) ⟨w.heap.size, A2, p.f2.length, c2, rfl, row_at PBA.out 1 _ rfl, row_at PBA.out 2 _ rfl, rfl⟩ (fun b hb => by injection hb with hb; injection hb with hb; injection hb with hb; omega) (by omega) (by omega) hN.out.2.1 hN.out.2.2).mono ?_; rintro e w7 ⟨rfl, hm7, hc7⟩; rw [hrr] at hc7 ⊢; have M7 := Aside0.mk hm7; have C7 := Aside0.mk hc7; clear hm7 hc7)
                  go_round
                  case rel => exact ⟨k + 1, ra, by go_num, by omega, ⟨(hM.out.next BZ.out).trans M7.out (fun i h => .inl h)⟩, C7, ⟨by rw [hN.out.1, HD.out], HBD.out.1, HBD.out.2 (by simp)⟩⟩
                  case measure => simp [intOf]; omega
                · have hz1 : (rb != 0) = true := bne_iff_ne.mpr hz
                  rw [if_neg hz] at HD
                  go_wp2_with (go_at_call 42; refine (IH.out q (by have := sizeOf_mem HQM.out; have := HP.out; omega) w0 (wr.alloc (.cells #[.int .i64 q.f0, .int .i64 q.f1, .slice D2 q.f2.length d2, .slice D3 q.f3.length d3, .slice D4 q.f4.length d4, .slice D5 q.f5.length d5] 27)) (B0z.out.trans (BZ.out.mono B0z.out.size)) HG.out D2 d2 D3 d3 D4 d4 D5 d5 G.out.1 G.out.2.1 G.out.2.2.1 G.out.2.2.2.1 G.out.2.2.2.2.1 G.out.2.2.2.2.2.1 G.out.2.2.2.2.2.2.1 G.out.2.2.2.2.2.2.2 (wordsL_mem (words_protos HW.out) HQM.out) cb HCB0.out (some (p.f1, (p.f2.length : Int))) (.pointer (some ⟨w.heap.size, 0, none⟩)) (deep + 1) m ((BZ.out.block cb (lt_of_blk CBz.out)).trans CBz.out) ⟨w.heap.size, A2, p.f2.length, c2, rfl, row_at PBA.out 1 _ rfl, row_at PBA.out 2 _ rfl, rfl⟩ (fun b hb => by injection hb with hb; injection hb with hb; injection hb with hb; omega) (by omega) (by omega) hN.out.2.1 hN.out.2.2).mono ?_; rintro e w7 ⟨rfl, hm7, hc7⟩; rw [hrr] at hc7 ⊢; have M7 := Aside0.mk hm7; have C7 := Aside0.mk hc7; clear hm7 hc7)
                  go_ret
                  rw [HR.out]
                  exact ⟨by rw [hN.out.1, HD.out]; rfl, M6.out.trans ((hM.out.next BZ.out).trans M7.out (fun i h => .inl h)) (fun i h => .inl h), by rw [hN.out.1, HD.out]; exact C7.out⟩
              · obtain rfl : k = p.f5.length := by omega
                have i1 : ¬ (p.f5.length : Int) < (p.f5.length : Int) := by omega
                have HE : Aside0 (chkL p.f5 (p.f1, (p.f2.length : Int)) (deep + 1) (many + 1) = (m, 0)) := ⟨by rw [hN.out.1, List.drop_length, chkL]⟩
                go_wp2_with fail
                go_ret
                rw [HR.out, HE.out]
                exact ⟨rfl, M6.out.trans hM.out (fun i h => .inl h), CBz.out⟩
def prog_Check.f (a0_0 : Int) (a0_1 : Int) (l0_2 : List S94) (l0_3 : List S36) (l0_4 : List S98) (l0_5 : List S27) : Option Int := if wordsM ⟨a0_0, a0_1, l0_2, l0_3, l0_4, l0_5⟩ = true then some (chk ⟨a0_0, a0_1, l0_2, l0_3, l0_4, l0_5⟩ none 0 0).2 else none
def prog_check.f (a0_0 : Int) (a0_1 : Int) (l0_2 : List S94) (l0_3 : List S36) (l0_4 : List S98) (l0_5 : List S27) : Option Int := prog_Check.f a0_0 a0_1 l0_2 l0_3 l0_4 l0_5
set_option maxRecDepth 100000 in
set_option maxHeartbeats 2000000 in
theorem prog_check.calls (a0_0 : Int) (a0_1 : Int) (A0_2 : Option Addr) (c0_2 : Nat) (l0_2 : List S94) (A0_3 : Option Addr) (c0_3 : Nat) (l0_3 : List S36) (A0_4 : Option Addr) (c0_4 : Nat) (l0_4 : List S98) (A0_5 : Option Addr) (c0_5 : Nat) (l0_5 : List S27) (r : Int) (w : World)
    (hr0_2 : Kd.C k94 w A0_2 l0_2.length l0_2) (hc0_2 : l0_2.length ≤ c0_2) (hr0_3 : Kd.C k36 w A0_3 l0_3.length l0_3) (hc0_3 : l0_3.length ≤ c0_3) (hr0_4 : Kd.C k98 w A0_4 l0_4.length l0_4) (hc0_4 : l0_4.length ≤ c0_4) (hr0_5 : Kd.C k27 w A0_5 l0_5.length l0_5) (hc0_5 : l0_5.length ≤ c0_5) (hG : OrdersLaid w) (h : prog_check.f a0_0 a0_1 l0_2 l0_3 l0_4 l0_5 = some r) :
    Calls Tryd.prog 29 #[.agg #[.int .i64 a0_0, .int .i64 a0_1, .slice A0_2 l0_2.length c0_2, .slice A0_3 l0_3.length c0_3, .slice A0_4 l0_4.length c0_4, .slice A0_5 l0_5.length c0_5]] w fun e w' => e = .returned (.int .i64 r) ∧ Below w.heap.size w w' := by
  unfold prog_check.f prog_Check.f at h
  by_cases hw : wordsM ⟨a0_0, a0_1, l0_2, l0_3, l0_4, l0_5⟩ = true
  · rw [if_pos hw] at h
    obtain rfl := Option.some.inj h
    obtain ⟨W2, hW2⟩ : ∃ W2, W2 = (w.alloc (.cells #[.int .i64 a0_0, .int .i64 a0_1, .slice A0_2 l0_2.length c0_2, .slice A0_3 l0_3.length c0_3, .slice A0_4 l0_4.length c0_4, .slice A0_5 l0_5.length c0_5] 27)).alloc (.cells #[.int .i64 0] 75) := ⟨_, rfl⟩
    have B2 : Below w.heap.size w W2 := by rw [hW2]; exact ((Below.refl w.heap.size w).alloc (Nat.le_refl _) _).alloc (by simp) _
    have CB : W2.heap[w.heap.size + 1]? = some (.cells #[.int .i64 0] 75 (0, 0)) := by
      have h := heap_alloc_new (w.alloc (.cells #[.int .i64 a0_0, .int .i64 a0_1, .slice A0_2 l0_2.length c0_2, .slice A0_3 l0_3.length c0_3, .slice A0_4 l0_4.length c0_4, .slice A0_5 l0_5.length c0_5] 27)) (.cells #[.int .i64 0] 75)
      rw [← hW2, show (w.alloc (.cells #[.int .i64 a0_0, .int .i64 a0_1, .slice A0_2 l0_2.length c0_2, .slice A0_3 l0_3.length c0_3, .slice A0_4 l0_4.length c0_4, .slice A0_5 l0_5.length c0_5] 27)).heap.size = w.heap.size + 1 by simp] at h
      exact h
    have HF := Aside0.mk (function_calls _ ⟨a0_0, a0_1, l0_2, l0_3, l0_4, l0_5⟩ (Nat.le_refl _) w W2 B2 hG A0_2 c0_2 A0_3 c0_3 A0_4 c0_4 A0_5 c0_5 hr0_2 hr0_3 hr0_4 hr0_5 hc0_2 hc0_3 hc0_4 hc0_5 hw (w.heap.size + 1) (by omega) none (.pointer none) 0 0 CB rfl (fun b hb => by injection hb with hb; cases hb) (by omega) (by omega) (by omega) (by omega))
    have HB2 := Aside0.mk B2
    have k0 : (w.alloc (.cells #[.int .i64 a0_0, .int .i64 a0_1, .slice A0_2 l0_2.length c0_2, .slice A0_3 l0_3.length c0_3, .slice A0_4 l0_4.length c0_4, .slice A0_5 l0_5.length c0_5] 27)).cell? ⟨w.heap.size, 0, none⟩ = some (.int .i64 a0_0) := row_at (heap_alloc_new w _) 0 _ rfl
    clear hr0_2 hr0_3 hr0_4 hr0_5 hc0_2 hc0_3 hc0_4 hc0_5 hG h hw B2 CB
    go_enter Tryd.func29, Tryd.ntmps29
    go_wp2_with (go_at_call 42; rw [← hW2]; refine HF.out.mono ?_; rintro e w3 ⟨rfl, hm, hc⟩; have M3 := Aside0.mk hm; clear hm hc)
    go_ret
    exact ⟨rfl, HB2.out.trans (M3.out.below (fun k hk => by omega) HB2.out.size)⟩
  · rw [if_neg hw] at h
    cases h
set_option maxRecDepth 100000 in
set_option maxHeartbeats 2000000 in
theorem prog_Check.calls (a0_0 : Int) (a0_1 : Int) (A0_2 : Option Addr) (c0_2 : Nat) (l0_2 : List S94) (A0_3 : Option Addr) (c0_3 : Nat) (l0_3 : List S36) (A0_4 : Option Addr) (c0_4 : Nat) (l0_4 : List S98) (A0_5 : Option Addr) (c0_5 : Nat) (l0_5 : List S27) (r : Int) (w : World)
    (hr0_2 : Kd.C k94 w A0_2 l0_2.length l0_2) (hc0_2 : l0_2.length ≤ c0_2) (hr0_3 : Kd.C k36 w A0_3 l0_3.length l0_3) (hc0_3 : l0_3.length ≤ c0_3) (hr0_4 : Kd.C k98 w A0_4 l0_4.length l0_4) (hc0_4 : l0_4.length ≤ c0_4) (hr0_5 : Kd.C k27 w A0_5 l0_5.length l0_5) (hc0_5 : l0_5.length ≤ c0_5) (hG : OrdersLaid w) (h : prog_Check.f a0_0 a0_1 l0_2 l0_3 l0_4 l0_5 = some r) :
    Calls Tryd.prog 10 #[.agg #[.int .i64 a0_0, .int .i64 a0_1, .slice A0_2 l0_2.length c0_2, .slice A0_3 l0_3.length c0_3, .slice A0_4 l0_4.length c0_4, .slice A0_5 l0_5.length c0_5]] w fun e w' => e = .returned (.int .i64 r) ∧ Below w.heap.size w w' := by
  obtain ⟨W1, hW1⟩ : ∃ W1, W1 = w.alloc (.cells #[.int .i64 a0_0, .int .i64 a0_1, .slice A0_2 l0_2.length c0_2, .slice A0_3 l0_3.length c0_3, .slice A0_4 l0_4.length c0_4, .slice A0_5 l0_5.length c0_5] 27) := ⟨_, rfl⟩
  have B1 : Below w.heap.size w W1 := by rw [hW1]; exact (Below.refl w.heap.size w).alloc (Nat.le_refl _) _
  have HF := Aside0.mk (prog_check.calls a0_0 a0_1 A0_2 c0_2 l0_2 A0_3 c0_3 l0_3 A0_4 c0_4 l0_4 A0_5 c0_5 l0_5 r W1 (Kd.C_below hr0_2 B1) hc0_2 (Kd.C_below hr0_3 B1) hc0_3 (Kd.C_below hr0_4 B1) hc0_4 (Kd.C_below hr0_5 B1) hc0_5 (globBelow hG B1) h)
  have HB1 := Aside0.mk B1
  clear hr0_2 hr0_3 hr0_4 hr0_5 hc0_2 hc0_3 hc0_4 hc0_5 hG h B1
  go_enter Tryd.func10, Tryd.ntmps10
  go_wp2_with (go_at_call 29; rw [← hW1]; refine HF.out.mono ?_; rintro e w3 ⟨rfl, hb⟩; have B3 := Aside0.mk hb; clear hb)
  go_ret
  exact ⟨rfl, below_step HB1.out B3.out⟩
end Go.Proofs.YtlhnkfheojlghaaDoor.Pr
