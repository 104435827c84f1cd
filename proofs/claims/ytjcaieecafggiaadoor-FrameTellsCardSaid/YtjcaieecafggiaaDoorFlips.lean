/- The struct that FrameTells is handed, read as five numbers; and the contract of FrameTells in one. -/
import Derived.Test.YtjcaieecafggiaaDoorPx2
import Derived.Test.YtjcaieecafggiaaDoorPx3
import Derived.WideShapes
import Derived.OpenShut
namespace Go.Proofs.YtjcaieecafggiaaDoor.Px
open Go.RowKit Go.ChangeShapes Go.WideShapes Go.Proofs.YtjcaieecafggiaaDoorW.PrintWords Go.Proofs.YtjcaieecafggiaaDoorW.PrintLast Go.Proofs.YtjcaieecafggiaaDoorW.PrintMore Go.Proofs.YtjcaieecafggiaaDoor.Pr
set_option linter.unusedVariables false
set_option linter.unusedSimpArgs false
section
variable {H : Type} {enc : TypeId × Value → H} {w : World} {base : Nat} {spare : Nat → Bool} {held : Bool}
theorem one_int {t : TypeId} {k : IntKind} {fuel : Nat} {cs : List Value} {x : DataW H × List MemPlace} (ht : Tryd.prog.underlying t = some (.int k)) (h : DataW.trod enc Tryd.prog w base spare held fuel t cs = some x) : ∃ n, cs = [.int k n] ∧ (Lit.int k n).wf = true := by
  obtain ⟨n, h1, _, h3⟩ := DataW.trod_int ht h
  exact ⟨n, h1, h3⟩
theorem open_flips {r : Reach} {b0 : Nat} {v : Value} {d : DataW H} {ps : List MemPlace} (hval : Value.okWide Tryd.prog w r b0 41 v) (hd : DataW.Trod enc Tryd.prog w base spare held 41 v d ps) :
    ∃ a b c f e : Int, v = .agg #[.int .u16 a, .int .u16 b, .int .u16 c, .int .u16 f, .int .u32 e] ∧ (0 ≤ a ∧ a ≤ 65535) ∧ (0 ≤ b ∧ b ≤ 65535) ∧ (0 ≤ c ∧ c ≤ 65535) ∧ (0 ≤ f ∧ f ≤ 65535) ∧ (0 ≤ e ∧ e ≤ 4294967295) := by
  obtain ⟨cs, rfl, hsz⟩ := okWide_struct Tryd.underlying41 hval
  rw [show Tryd.prog.cellsOf 41 = 5 by kernel_rfl] at hsz
  obtain ⟨fuel, hf⟩ := hd
  obtain ⟨xs, n, rfl, hx, hl, hn, hi⟩ := DataW.trod_struct Tryd.underlying41 hf
  have c39 : Tryd.prog.cellsOf 39 = 3 := by kernel_rfl
  have c38 : Tryd.prog.cellsOf 38 = 1 := by kernel_rfl
  have c23 : Tryd.prog.cellsOf 23 = 1 := by kernel_rfl
  have i0 : DataW.trod enc Tryd.prog w base spare held n 39 (((Value.agg cs).cells.toList.drop 0).take (Tryd.prog.cellsOf 39)) = xs[0]? := hi 0 _ rfl
  have i1 : DataW.trod enc Tryd.prog w base spare held n 38 (((Value.agg cs).cells.toList.drop 3).take (Tryd.prog.cellsOf 38)) = xs[1]? := hi 1 _ rfl
  have i2 : DataW.trod enc Tryd.prog w base spare held n 23 (((Value.agg cs).cells.toList.drop 4).take (Tryd.prog.cellsOf 23)) = xs[2]? := hi 2 _ rfl
  obtain ⟨y0, e0⟩ : ∃ y, xs[0]? = some y := ⟨_, List.getElem?_eq_getElem (by rw [hn]; decide)⟩
  obtain ⟨y1, e1⟩ : ∃ y, xs[1]? = some y := ⟨_, List.getElem?_eq_getElem (by rw [hn]; decide)⟩
  obtain ⟨y2, e2⟩ : ∃ y, xs[2]? = some y := ⟨_, List.getElem?_eq_getElem (by rw [hn]; decide)⟩
  rw [e0, c39] at i0
  rw [e1, c38] at i1
  rw [e2, c23] at i2
  obtain ⟨f, hf1, hf2⟩ := one_int Tryd.underlying38 i1
  obtain ⟨e, he1, he2⟩ := one_int Tryd.underlying23 i2
  obtain ⟨zs, m, rfl, _, _, hz, hj⟩ := DataW.trod_array Tryd.underlying39 i0
  have j0 := hj 0 (by decide)
  have j1 := hj 1 (by decide)
  have j2 := hj 2 (by decide)
  obtain ⟨z0, g0⟩ : ∃ y, zs[0]? = some y := ⟨_, List.getElem?_eq_getElem (by rw [hz]; decide)⟩
  obtain ⟨z1, g1⟩ : ∃ y, zs[1]? = some y := ⟨_, List.getElem?_eq_getElem (by rw [hz]; decide)⟩
  obtain ⟨z2, g2⟩ : ∃ y, zs[2]? = some y := ⟨_, List.getElem?_eq_getElem (by rw [hz]; decide)⟩
  rw [g0] at j0
  rw [g1] at j1
  rw [g2] at j2
  simp only [c38] at j0 j1 j2
  obtain ⟨a, ha1, ha2⟩ := one_int Tryd.underlying38 j0
  obtain ⟨b, hb1, hb2⟩ := one_int Tryd.underlying38 j1
  obtain ⟨c, hc1, hc2⟩ := one_int Tryd.underlying38 j2
  refine ⟨a, b, c, f, e, ?_, bounds_u16 ha2, bounds_u16 hb2, bounds_u16 hc2, bounds_u16 hf2, bounds_u32 he2⟩
  obtain ⟨l⟩ := cs
  have hl5 : l.length = 5 := hsz
  rcases l with _ | ⟨q0, _ | ⟨q1, _ | ⟨q2, _ | ⟨q3, _ | ⟨q4, l⟩⟩⟩⟩⟩ <;> simp only [List.length_cons, List.length_nil] at hl5 <;> first | (exfalso; omega) | skip
  obtain rfl : l = [] := List.length_eq_zero_iff.1 (by omega)
  simp only [Value.cells] at ha1 hb1 hc1 hf1 he1
  simp at ha1 hb1 hc1 hf1 he1
  subst ha1 hb1 hc1 hf1 he1
  rfl
end
theorem minstrellaw06_FrameTells.all (k : Nat) (A0 : Option Addr) (n c0 : Nat) (l0 : List Int) (a b c f e : Int) (we : World) (hr0 : Kd.C (Kd.int .u8) we A0 l0.length l0) (hc0 : l0.length ≤ c0) (hG : QuarterLaid we) (h : minstrellaw06_FrameTells.f k (l0.take 64) [a, b, c] [f] [e] = some true) :
    Calls Tryd.prog 7 #[.slice A0 l0.length c0, .agg #[.int .u16 a, .int .u16 b, .int .u16 c, .int .u16 f, .int .u32 e]] we fun x w' => x = .returned (.bool true) ∧ Below we.heap.size we w' := by
  generalize ho : (Obj.cells #[.int .u16 a, .int .u16 b, .int .u16 c, .int .u16 f, .int .u32 e] 41) = o
  obtain ⟨w, hw⟩ : ∃ w, we.alloc o = w := ⟨_, rfl⟩
  have bel : Below we.heap.size we w := by rw [← hw]; exact below_alloc (Below.refl _ _) o
  have hblk : w.heap[we.heap.size]? = some o := by rw [← hw]; show (we.heap.push o)[we.heap.size]? = some o; simp
  have hcell : ∀ i, w.cell? ⟨we.heap.size, i, none⟩ = (#[Value.int .u16 a, .int .u16 b, .int .u16 c, .int .u16 f, .int .u32 e])[i]? := by
    intro i
    unfold World.cell?
    simp only [hblk, ← ho]
    rfl
  have hr1 : Kd.C (Kd.int .u16) w (some ⟨we.heap.size, 0, none⟩) [a, b, c].length [a, b, c] := by
    refine Kd.C_of_reads (d := (0 : Int)) ⟨rfl, by simp, fun _ => ⟨_, rfl, fun j hj => ?_⟩⟩
    rw [addr_add_off, hcell]
    match j, hj with
    | 0, _ => rfl
    | 1, _ => rfl
    | 2, _ => rfl
  have hr2 : Kd.C (Kd.int .u16) w (some ⟨we.heap.size, 3, none⟩) [f].length [f] := by
    refine Kd.C_of_reads (d := (0 : Int)) ⟨rfl, by simp, fun _ => ⟨_, rfl, fun j hj => ?_⟩⟩
    match j, hj with
    | 0, _ => exact hcell 3
  have hr3 : Kd.C (Kd.int .u32) w (some ⟨we.heap.size, 4, none⟩) [e].length [e] := by
    refine Kd.C_of_reads (d := (0 : Int)) ⟨rfl, by simp, fun _ => ⟨_, rfl, fun j hj => ?_⟩⟩
    match j, hj with
    | 0, _ => exact hcell 4
  have hG' : QuarterLaid w := globBelow hG bel
  have hr0' := Kd.C_below hr0 bel
  have hsz : we.heap.size ≤ w.heap.size := bel.size
  subst ho
  by_cases hn : 64 < (l0.length : Int)
  · have ht : (l0.take 64).length = 64 := by rw [List.length_take]; omega
    exact (minstrellaw06_FrameTells.big k A0 l0.length c0 (l0.take 64) [a, b, c] [f] [e] rfl rfl rfl true we w hw hn hc0 ht (Kd.C_take hr0' (by omega)) (by rw [ht]; omega) hr1 hr2 hr3 hG' h).mono fun x w' ⟨h1, h2⟩ => ⟨h1, bel.trans (h2.mono hsz)⟩
  · rw [List.take_of_length_le (by omega)] at h
    exact (minstrellaw06_FrameTells.small k A0 l0.length c0 l0 [a, b, c] [f] [e] rfl rfl rfl true we w hw hn hr0' hc0 hr1 hr2 hr3 hG' h).mono fun x w' ⟨h1, h2⟩ => ⟨h1, bel.trans (h2.mono hsz)⟩
end Go.Proofs.YtjcaieecafggiaaDoor.Px
