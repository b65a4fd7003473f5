/- The reference's reduced rows, top by top; no conditions beyond those written. -/
import Derived.Test.YtdhkcnhmmiigoaaQx0
import Derived.Test.YtdhkcnhmmiigoaaQx8
import Derived.Test.YtdhkcnhmmiigoaaSbase
import Derived.Test.YtdhkcnhmmiigoaaSred
namespace Go.Proofs.Ytdhkcnhmmiigoaa.Q
open Go.RowKit Go.Proofs.YtdhkcnhmmiigoaaW.PrintWords Go.Proofs.YtdhkcnhmmiigoaaW.PrintLast Go.Proofs.YtdhkcnhmmiigoaaW.PrintMore
attribute [local go_sem] max2_int min2_int max_two min_two max_three min_three max_four min_four   -- for this text's walks alone
set_option linter.unusedVariables false
set_option linter.unusedSimpArgs false

theorem top_small : ∀ n : Fin 64, n.val ≠ 0 → spec_l06Top.f 8 (n.val : Int) = some ((ldN n.val : Nat) : Int) := by decide +kernel
def topAt (p : Nat) : Int := 32 / 2 ^ p
theorem topAt_facts : ∀ p : Fin 6, topAt p.val > 0 ∧ topAt p.val ≤ 32 ∧ (topAt p.val).tdiv 2 = topAt (p.val + 1) ∧ topAt p.val / 2 = topAt (p.val + 1) := by decide +kernel
def isTop (t y : Int) : Bool := decide (0 < y) && decide ((ldN y.toNat : Int) = t)
def oneTo (s : List Int) (t : Int) : List Int := match s.find? (isTop t) with
  | some y => [y]
  | none => []
def outTo (s : List Int) : Nat → List Int
  | 0 => []
  | p + 1 => outTo s p ++ oneTo s (topAt p)
theorem outTo_all (s : List Int) : outTo s 6 = specRed s := by
  have h : ∀ (l : List Int), l.filterMap (fun t => s.find? (isTop t)) = (l.map (oneTo s)).flatten := by
    intro l
    induction l with
    | nil => rfl
    | cons t ts ih =>
      rw [List.filterMap_cons, List.map_cons, List.flatten_cons, ← ih]
      unfold oneTo
      cases s.find? (isTop t) <;> rfl
  show ((((((([] ++ oneTo s (topAt 0)) ++ oneTo s (topAt 1)) ++ oneTo s (topAt 2)) ++ oneTo s (topAt 3)) ++ oneTo s (topAt 4)) ++ oneTo s (topAt 5))) = [32, 16, 8, 4, 2, 1].filterMap fun t => s.find? (isTop t)
  rw [h]
  have e : topAt 0 = 32 ∧ topAt 1 = 16 ∧ topAt 2 = 8 ∧ topAt 3 = 4 ∧ topAt 4 = 2 ∧ topAt 5 = 1 := by decide +kernel
  rw [e.1, e.2.1, e.2.2.1, e.2.2.2.1, e.2.2.2.2.1, e.2.2.2.2.2]
  simp
theorem oneTo_length (s : List Int) (t : Int) : (oneTo s t).length ≤ 1 := by unfold oneTo; split <;> simp
theorem outTo_length (s : List Int) (p : Nat) : (outTo s p).length ≤ p := by
  induction p with
  | zero => simp [outTo]
  | succ p ih => unfold outTo; rw [List.length_append]; have := oneTo_length s (topAt p); omega
theorem find_step (s : List Int) (P : Int → Bool) (i : Nat) (hi : i < s.length) (h : (s.drop i).find? P = s.find? P) (hn : P (rd s (i : Int)) = false) : (s.drop (i + 1)).find? P = s.find? P := by
  rw [drop_rd s i hi, List.find?_cons, hn] at h
  exact h
theorem find_hit (s : List Int) (P : Int → Bool) (i : Nat) (hi : i < s.length) (h : (s.drop i).find? P = s.find? P) (hn : P (rd s (i : Int)) = true) : s.find? P = some (rd s (i : Int)) := by
  rw [drop_rd s i hi, List.find?_cons, hn] at h
  exact h.symm
theorem find_end (s : List Int) (P : Int → Bool) (h : (s.drop s.length).find? P = s.find? P) : s.find? P = none := by
  rw [List.drop_length] at h
  exact h.symm
end Go.Proofs.Ytdhkcnhmmiigoaa.Q
