/- The rank of rows: both sides' are the same; no conditions beyond those written. -/
import Derived.Test.YtdhkcnhmmiigoaaQx0
import Derived.Test.YtdhkcnhmmiigoaaQx7
import Derived.Test.YtdhkcnhmmiigoaaSbase
import Derived.Test.YtdhkcnhmmiigoaaSred
import Derived.Test.YtdhkcnhmmiigoaaSspans
namespace Go.Proofs.Ytdhkcnhmmiigoaa.Q
open Go.RowKit Go.Proofs.YtdhkcnhmmiigoaaW.PrintWords Go.Proofs.YtdhkcnhmmiigoaaW.PrintLast Go.Proofs.YtdhkcnhmmiigoaaW.PrintMore
attribute [local go_sem] max2_int min2_int max_two min_two max_three min_three max_four min_four   -- for this text's walks alone
set_option linter.unusedVariables false
set_option linter.unusedSimpArgs false

theorem rank_small : ∀ n : Fin 4, spec_l06Rank.l0 8 0 ((2 ^ n.val : Nat) : Int) = some (n.val : Int) := by decide +kernel
theorem ev_l06Rank (rows : List Int) (hl : rows.length ≤ 3) (hr : ∀ x ∈ rows, 0 ≤ x ∧ x ≤ 63) : Ev (fun k => spec_l06Rank.f k rows) ((redN (rows.map Int.toNat)).length : Int) := by
  unfold spec_l06Rank.f
  have hlen := redN_len (rows.map Int.toNat)
  rw [List.length_map] at hlen
  refine Ev.bind (Ev.eq (ev_spec_span rows hl hr) (setL_congr (fun x => (sp_mem rows rows.length x).symm))) ?_
  rw [(red_all rows hl hr).2]
  exact Ev.of (g := fun k => spec_l06Rank.l0 k 0 _) (fun k => spec_l06Rank.mono_l k _ _) (rank_small ⟨(redN (rows.map Int.toNat)).length, by omega⟩)
end Go.Proofs.Ytdhkcnhmmiigoaa.Q
