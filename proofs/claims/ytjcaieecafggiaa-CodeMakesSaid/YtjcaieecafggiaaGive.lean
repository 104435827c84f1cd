/- code.give: it panics with what is wrong. -/
import Derived.Test.YtjcaieecafggiaaPr0
import Derived.Defers
import Derived.Recover
import Derived.WalkSmall
namespace Go.Proofs.Ytjcaieecafggiaa.Pr
open Go.RowKit Go.Proofs.YtjcaieecafggiaaW.PrintWords Go.Proofs.YtjcaieecafggiaaW.PrintLast Go.Proofs.YtjcaieecafggiaaW.PrintMore
/-- What code.give panics with. -/
def wrongV (n : Int) : Value := .iface 60 (.agg #[.int .i64 n])
theorem give_calls (n : Int) (w : World) : Calls Try.prog 34 #[.int .i64 n] w fun e w' => e = .panicked [{ v := wrongV n, recovered := false }] ∧ w' = w := by
  go_enter Try.func34, Try.ntmps34
  go_wp2
  unfold bodyPost
  first | exact ⟨rfl, rfl⟩ | exact ⟨rfl, ⟨rfl, rfl⟩⟩ | (simp; rfl) | (simp only []; trace_state)
end Go.Proofs.Ytjcaieecafggiaa.Pr
