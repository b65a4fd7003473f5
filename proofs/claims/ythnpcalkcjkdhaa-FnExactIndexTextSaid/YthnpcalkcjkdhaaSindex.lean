/- What the laws' helpers come to at an index; no conditions beyond those written. -/
import Derived.Test.YthnpcalkcjkdhaaQx0
import Derived.Test.YthnpcalkcjkdhaaQx1
import Derived.Test.YthnpcalkcjkdhaaSbase
import Derived.Test.YthnpcalkcjkdhaaSwords
namespace Go.Proofs.Ythnpcalkcjkdhaa.Q
open Go.RowKit Go.Proofs.YthnpcalkcjkdhaaW.PrintWords Go.Proofs.YthnpcalkcjkdhaaW.PrintLast Go.Proofs.YthnpcalkcjkdhaaW.PrintMore
attribute [local go_sem] max2_int min2_int max_two min_two max_three min_three max_four min_four   -- for this text's walks alone
set_option linter.unusedVariables false
set_option linter.unusedSimpArgs false

theorem szInt64S_big (l : List Int) (h : ¬ l.length ≤ 1048576) (hl : l.length ≤ 9223372036854775807) : laws_szInt64S.f l 1048576 = some (-1) := by
  unfold laws_szInt64S.f
  rw [wrap64_id (by omega) (by omega), if_pos (by omega)]
theorem szInt64S_small (l : List Int) (h : l.length ≤ 1048576) : laws_szInt64S.f l 1048576 = some (1048576 - (l.length : Int)) := by
  unfold laws_szInt64S.f
  rw [wrap64_id (by omega) (by omega), if_neg (by omega)]
theorem szIndex_big (l : List Int) (h : ¬ l.length ≤ 1048576) (hl : l.length ≤ 9223372036854775807) : laws_szIndex.f l 1048576 = some (-1) := by
  unfold laws_szIndex.f
  rw [szInt64S_big l h hl]; rfl
theorem szIndex_small (l : List Int) (h : l.length ≤ 1048576) : laws_szIndex.f l 1048576 = some (1048576 - (l.length : Int)) := by
  unfold laws_szIndex.f
  rw [szInt64S_small l h]
  simp only [Option.bind_some]
  rw [if_neg (by omega)]
theorem ev_toIndex (l : List Int) (h : l.length ≤ 35184372088832) : Ev (fun k => laws_toIndex.f k l) l := by
  unfold laws_toIndex.f
  exact Ev.bind (ev_toInt64S l h) (Ev.now _)
theorem ev_eqIndex_same (a : List Int) (h : a.length ≤ 35184372088832) : Ev (fun k => laws_eqIndex.f k a a) true := by
  unfold laws_eqIndex.f
  exact Ev.bind (ev_eqInt64S_same a h) (Ev.ite_pos rfl (Ev.now _))
/-- The guard of a law over an index: where it is too long, nothing is asked. -/
theorem ev_index_guard {F : Nat → Int → Option Bool} (l : List Int) (hl : l.length ≤ 9223372036854775807) (h : l.length ≤ 1048576 → Ev (fun k => F k (1048576 - (l.length : Int))) true) :
    Ev (fun k => (laws_szIndex.f l 1048576).bind fun t => if t < 0 then some true else F k t) true := by
  by_cases hs : l.length ≤ 1048576
  · exact Ev.cbind (szIndex_small l hs) (Ev.ite_neg (by omega) (h hs))
  · exact Ev.cbind (szIndex_big l hs hl) (Ev.ite_pos (by omega) (Ev.now _))
end Go.Proofs.Ythnpcalkcjkdhaa.Q
