/- What lives of the frame laws comes to. -/
import Derived.Test.YtjcaieecafggiaaDoorFrameC
import Derived.Lib.SlBytesConst
namespace Go.Proofs.YtjcaieecafggiaaDoor.Pr
open Go.RowKit Go.Proofs.YtjcaieecafggiaaDoorW.PrintWords Go.Proofs.YtjcaieecafggiaaDoorW.PrintLast Go.Proofs.YtjcaieecafggiaaDoorW.PrintMore
set_option linter.unusedVariables false
set_option linter.unusedSimpArgs false
/-- A block of whole numbers that is read. -/
theorem C_nums {W : World} {b : Nat} {k : IntKind} {xs : List Int} {t : TypeId} {fr : Nat × Nat} (hb : W.heap[b]? = some (.cells (nums k xs).toArray t fr)) (hm : xs.length ≤ 9223372036854775807) : Kd.C (Kd.int k) W (some ⟨b, 0, none⟩) xs.length xs := by
  refine ⟨rfl, hm, fun _ => ⟨_, rfl, fun j x hx => ⟨[.int k x], rfl, rfl, fun i u hu => ?_⟩⟩⟩
  have h0 : i = 0 := by
    have := (List.getElem?_eq_some_iff.1 hu).1
    simp at this
    omega
  subst h0
  have hu' : Value.int k x = u := by simpa using hu
  subst hu'
  have := World.news_of_block hb j (.int k x) (by simp [nums, hx])
  simpa [Kd.int, Kd.scalar] using this
def minstrellaw06_lives.f : Option Bool := (frame_Sum.f [49, 50, 51, 52, 53, 54, 55, 56, 57]).bind fun t => some (t == 3421780262)
set_option maxRecDepth 100000 in
set_option maxHeartbeats 1000000 in
theorem minstrellaw06_lives.calls (r : Bool) (w : World) (hG : QuarterLaid w) (h : minstrellaw06_lives.f = some r) :
    Calls Tryd.prog 11 #[] w fun e w' => e = .returned (.bool r) ∧ Below w.heap.size w w' := by
  unfold minstrellaw06_lives.f at h
  obtain ⟨t, ht, h2⟩ := Option.bind_eq_some_iff.1 h
  obtain rfl := Option.some.inj h2
  have hb : Below w.heap.size w (w.alloc (.cells #[.int .u8 49, .int .u8 50, .int .u8 51, .int .u8 52, .int .u8 53, .int .u8 54, .int .u8 55, .int .u8 56, .int .u8 57] 5 (9, 10))) := (Below.refl _ _).alloc (Nat.le_refl _) _
  have HC := Aside0.mk (frame_Sum.calls (some ⟨w.heap.size, 0, none⟩) 9 [49, 50, 51, 52, 53, 54, 55, 56, 57] t _ (C_nums (heap_alloc_new w _) (by simp)) (by simp) (globBelow hG hb) ht)
  have HB := Aside0.mk hb
  clear h h2 ht hG hb
  have kc := fun (w : World) (C : Array Value) (n c : Nat) => Lib.run_convert_bytes_const (P := Tryd.prog) w 22 5 C n c Tryd.underlying22 Tryd.underlying5
  go_enter Tryd.func11, Tryd.ntmps11
  go_wp2_with (go_at_call 8; refine HC.out.mono ?_; rintro e w1 ⟨rfl, hb1⟩; have HB1 := Aside0.mk hb1; clear hb1)
  go_ret
  exact ⟨rfl, below_then HB.out (by simp) HB1.out⟩
end Go.Proofs.YtjcaieecafggiaaDoor.Pr
