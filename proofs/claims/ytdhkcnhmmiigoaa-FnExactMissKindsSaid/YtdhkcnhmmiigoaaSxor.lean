/- Parts of the proof, laid together: contracts and lemmas; no conditions beyond those written. -/
import Derived.Test.YtdhkcnhmmiigoaaQx0
import Derived.Test.YtdhkcnhmmiigoaaHsetOf
import Derived.Test.YtdhkcnhmmiigoaaSvalidindex
import Derived.Test.YtdhkcnhmmiigoaaQx6
import Derived.Test.YtdhkcnhmmiigoaaSbase
import Derived.Test.YtdhkcnhmmiigoaaSl00put
import Derived.Test.YtdhkcnhmmiigoaaSsetl
namespace Go.Proofs.Ytdhkcnhmmiigoaa.Q
open Go.RowKit Go.Proofs.YtdhkcnhmmiigoaaW.PrintWords Go.Proofs.YtdhkcnhmmiigoaaW.PrintLast Go.Proofs.YtdhkcnhmmiigoaaW.PrintMore
attribute [local go_sem] max2_int min2_int max_two min_two max_three min_three max_four min_four   -- for this text's walks alone
set_option linter.unusedVariables false
set_option linter.unusedSimpArgs false
section
theorem xor_i64 (a b : Nat) (ha : a < 64) (hb : b < 64) : Go.bits .xor .i64 (a : Int) (b : Int) = ((a ^^^ b : Nat) : Int) ∧ a ^^^ b < 64 := by
  have hx : a ^^^ b < 64 := Nat.xor_lt_two_pow (n := 6) ha hb
  refine ⟨?_, hx⟩
  have e : ∀ n : Nat, n < 64 → (BitVec.ofInt IntKind.i64.bits (n : Int)).toNat = n := by
    intro n hn
    rw [BitVec.toNat_ofInt]
    show (((n : Int) % ((2 ^ 64 : Nat) : Int)).toNat) = n
    have : ((2 ^ 64 : Nat) : Int) = 18446744073709551616 := by decide
    rw [this]; omega
  have h : (BitVec.ofInt IntKind.i64.bits (a : Int) ^^^ BitVec.ofInt IntKind.i64.bits (b : Int)).toNat = a ^^^ b := by
    rw [BitVec.toNat_xor, e a ha, e b hb]
  show IntKind.i64.wrap (((BitVec.ofInt IntKind.i64.bits (a : Int) ^^^ BitVec.ofInt IntKind.i64.bits (b : Int)).toNat : Nat) : Int) = _
  rw [h, IntKind.wrap_i64]
  omega
def xo (a b : Int) : Int := ((a.toNat ^^^ b.toNat : Nat) : Int)
theorem xor_xo {a b : Int} (ha : 0 ≤ a ∧ a ≤ 63) (hb : 0 ≤ b ∧ b ≤ 63) : Go.bits .xor .i64 a b = xo a b ∧ 0 ≤ xo a b ∧ xo a b ≤ 63 := by
  have h := xor_i64 a.toNat b.toNat (by omega) (by omega)
  rw [Int.toNat_of_nonneg ha.1, Int.toNat_of_nonneg hb.1] at h
  unfold xo
  exact ⟨h.1, by omega, by omega⟩
theorem xo_comm (a b : Int) : xo a b = xo b a := by unfold xo; rw [Nat.xor_comm]
theorem and_i64 (a b : Nat) (ha : a < 64) (hb : b < 64) : Go.bits .and .i64 (a : Int) (b : Int) = ((a &&& b : Nat) : Int) ∧ a &&& b < 64 := by
  have hx : a &&& b < 64 := Nat.lt_of_le_of_lt Nat.and_le_left ha
  refine ⟨?_, hx⟩
  have e : ∀ n : Nat, n < 64 → (BitVec.ofInt IntKind.i64.bits (n : Int)).toNat = n := by
    intro n hn
    rw [BitVec.toNat_ofInt]
    show (((n : Int) % ((2 ^ 64 : Nat) : Int)).toNat) = n
    have : ((2 ^ 64 : Nat) : Int) = 18446744073709551616 := by decide
    rw [this]; omega
  have h : (BitVec.ofInt IntKind.i64.bits (a : Int) &&& BitVec.ofInt IntKind.i64.bits (b : Int)).toNat = a &&& b := by
    rw [BitVec.toNat_and, e a ha, e b hb]
  show IntKind.i64.wrap (((BitVec.ofInt IntKind.i64.bits (a : Int) &&& BitVec.ofInt IntKind.i64.bits (b : Int)).toNat : Nat) : Int) = _
  rw [h, IntKind.wrap_i64]
  omega
end
section
theorem impl_setOf_f (l : List Int) (h : l.length ≤ 17592186044416) : impl_setOf.f l = some (setL l) := by unfold impl_setOf.f; rw [if_pos h]
end
section
theorem spec_l06Places_f (n : Int) : spec_l06Places.f n = some (isIn 1 4 n) := by
  unfold spec_l06Places.f
  rw [spec_l00In_f]; rfl
end
section
theorem ev_l02Set (l : List Int) (h : l.length ≤ 1000000000) : Ev (fun k => spec_l02Set.f k l) (setL l) := by
  unfold spec_l02Set.f
  rw [← putAll_eq]
  refine Ev.up (fun i k => spec_l02Set.l0 k l (putAll (l.take i)) (i : Int)) l.length (putAll l) ?_ ?_
  · apply Ev.succ
    simp only [spec_l02Set.l0, List.take_length]
    exact Ev.ite_neg (by omega) (Ev.now _)
  · intro i hi ih
    apply Ev.succ
    simp only [spec_l02Set.l0]
    have hl := (putAll_facts (l.take i) [] (by simp [Inc])).2.2
    refine Ev.ite_pos (by omega) (Ev.ite_pos (by omega) (Ev.bind (ev_l00Put _ _ (by unfold putAll; simp at hl; omega)) ?_))
    rw [wrap64_succ (by omega)]
    have e : putL (putAll (l.take i)) (rd l (i : Int)) = putAll (l.take (i + 1)) := by
      rw [take_succ_rd l i hi]; unfold putAll; rw [List.foldl_append]; rfl
    rw [e]
    exact ih
end
end Go.Proofs.Ytdhkcnhmmiigoaa.Q
