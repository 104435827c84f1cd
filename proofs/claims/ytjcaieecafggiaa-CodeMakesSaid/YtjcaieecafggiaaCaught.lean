/- code.caught, deferred: behind a panic of the package's own, and behind none. -/
import Derived.Test.YtjcaieecafggiaaGive
namespace Go.Proofs.Ytjcaieecafggiaa.Pr
open Go.RowKit Go.Proofs.YtjcaieecafggiaaW.PrintWords Go.Proofs.YtjcaieecafggiaaW.PrintLast Go.Proofs.YtjcaieecafggiaaW.PrintMore
set_option maxHeartbeats 1600000 in
theorem caught_idle (p : Addr) (w : World) :
    CallsD Try.prog 23 #[.pointer (some p)] .returning w fun e u' w' => e = .returned (.tuple #[]) ∧ u' = .returning ∧ w' = w := by
  refine callsD_of_wpS Try.func23 rfl fun c₀ cs hu => ?_
  apply wpS_seq
  apply wpS_region
  simp [wpOpsS, go_sem, recoverD, hu, Try.ntmps23, Exit.thenS]
  apply wpS_seq
  apply wpS_region
  simp [wpOpsS, go_sem, Exit.thenS]
  refine wpS_cond (t := false) (by simp [Act.eval, Array.replicate]) ?_
  simp only [Bool.false_eq_true, if_false]
  refine wpS_of_wp (wp_skip ?_)
  cases c₀
  simp_all [bodyPostS, results, Try.results23]
set_option maxHeartbeats 400000 in
theorem caught_panicking (pb po : Nat) (x n : Int) (pv : Value) (hpv : pv = .agg #[.int .i64 n]) (older : List PanicEntry) (w : World) (hc : w.cell? ⟨pb, po, none⟩ = some (.int .i64 x)) (hz : w.frozen? ⟨pb, po, none⟩ = false) :
    CallsD Try.prog 23 #[.pointer (some ⟨pb, po, none⟩)] (.panicking ({ v := .iface 60 pv, recovered := false } :: older)) w fun e u' w' =>
      e = .returned (.tuple #[]) ∧ u' = .panicking ({ v := .iface 60 pv, recovered := true } :: older) ∧ Below w.heap.size (w.setCell ⟨pb, po, none⟩ (.int .i64 n)) w' := by
  refine callsD_of_wpS Try.func23 rfl fun c₀ cs hu => ?_
  apply wpS_seq
  apply wpS_region
  simp [wpOpsS, go_sem, recoverD, hu, Try.ntmps23, Exit.thenS]
  apply wpS_seq
  apply wpS_region
  simp [wpOpsS, go_sem, Exit.thenS]
  refine wpS_cond (t := true) (by simp [Act.eval, Array.replicate]) ?_
  simp only [if_true]
  refine wpS_of_wp ?_
  have hcs : ∃ Q : Exit → Act → World → Prop, (∀ w', Below w.heap.size (w.setCell ⟨pb, po, none⟩ (.int .i64 n)) w' → ∀ a' : Act, a'.defers = [] → Q .normal a' w') ∧ Q = (fun e a' w' => bodyPostS Try.prog Try.f23 c₀ cs (fun e u' w' =>
      e = .returned (.tuple #[]) ∧ u' = .panicking ({ v := .iface 60 pv, recovered := true } :: older) ∧ Below w.heap.size (w.setCell ⟨pb, po, none⟩ (.int .i64 n)) w') e a' ({ c₀ with mode := .panicking ({ v := .iface 60 pv, recovered := true } :: older) } :: cs) w') := by
    refine ⟨_, fun w' hw a' ha' => ?_, rfl⟩
    refine ⟨ha', _, rfl, .tuple #[], ?_, rfl, rfl, hw⟩
    simp [results, Try.results23, go_sem]
  obtain ⟨Q, hQ, hq⟩ := hcs
  have HQ := Aside0.mk hQ
  clear hQ
  rw [← hq]
  clear hq hu
  subst hpv
  have ht : (#[Value.pointer (some ⟨pb, po, none⟩)] ++ ((((Array.replicate 19 undef).setIfInBounds 4 (.iface 60 (.agg #[.int .i64 n]))).setIfInBounds 1 (.iface 60 (.agg #[.int .i64 n]))).setIfInBounds 5 (.iface 60 (.agg #[.int .i64 n]))).setIfInBounds 6 (Value.bool true)) = #[.pointer (some ⟨pb, po, none⟩), undef, .iface 60 (.agg #[.int .i64 n]), undef, undef, .iface 60 (.agg #[.int .i64 n]), .iface 60 (.agg #[.int .i64 n]), .bool true, undef, undef, undef, undef, undef, undef, undef, undef, undef, undef, undef, undef] := by kernel_rfl
  rw [ht]
  clear ht
  have hta : ∀ W : World, (Instr.typeAssert (.iface 60 (.agg #[.int .i64 n])) 20 60 true).run Try.prog W = .ok (.tuple #[.agg #[.int .i64 n], .bool true]) W := fun W => by kernel_rfl
  have hlt : pb < w.heap.size := World.block_lt_of_cell? w _ hc
  go_wp2
  exact HQ.out _ ((Below.refl _ _).alloc (by simp) _) _ rfl
end Go.Proofs.Ytjcaieecafggiaa.Pr
